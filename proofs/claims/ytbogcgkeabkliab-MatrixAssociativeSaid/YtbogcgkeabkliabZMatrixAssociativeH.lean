/- Part H of: The statement MatrixAssociative: the law answers true whatever its arguments; no condition. -/
import Derived.Test.YtbogcgkeabkliabZMatrixAssociativeG
import Derived.Below
import Derived.KernelRfl
import Derived.Test.YtbogcgkeabkliabProg
import Derived.ProofKit
import Derived.OpenShut
import Derived.ChangeOld
section
set_option linter.unusedVariables false
namespace Go.Proofs.Ytbogcgkeabkliab.HL
open Go Go.RowKit
theorem addr_add (a : Addr) (m n : Nat) : (a.add m).add n = a.add (m + n) := by
  unfold Addr.add
  by_cases hm : m = 0 <;> by_cases hn : n = 0 <;> simp_all [Nat.add_assoc]
/-- All of the heap is known. -/
def hp (W : World) : HH := fun b => W.heap[b]?
theorem hp_sat (W : World) : Sat (hp W) W := fun _ _ h => h
theorem hp_cell {W : World} {a : Addr} {v : Value} (h : W.cell? a = some v) : cellH (hp W) a = some v := h
theorem HCall.calls {P : Program} {f : FuncId} {args : Array Value} {W : World} (h : HCall P W.heap.size f args (hp W) fun v _ => v = .bool true) : Calls P f args W fun e w' => e = .returned (.bool true) ∧ Below W.heap.size W w' :=
  (h.run W (hp_sat W) (Nat.le_refl _)).mono fun e W' ⟨v, H', he, hv, hto⟩ => ⟨by rw [he, hv], hto.os, hto.tape, hto.output, hto.size, fun k hk => by
    by_cases e : k < W.heap.size
    · exact hto.block k e (.inl hk)
    · omega⟩
/-- What cells say of a value. -/
abbrev Rel (α : Type) := HH → α → List Value → Prop
def rInt (k : IntKind) : Rel Int := fun _ n cs => cs = [.int k n]
def rBool : Rel Bool := fun _ b cs => cs = [.bool b]
def rSlice {α : Type} (sz : Nat) (r : Rel α) : Rel (List α) := fun H l cs => ∃ A c, cs = [.slice A l.length c] ∧ l.length ≤ c ∧ (l = [] ∨ ∃ ad, A = some ad ∧ ∀ (i : Nat) (a : α), l[i]? = some a → ∃ cs', cs'.length = sz ∧ r H a cs' ∧ ∀ (j : Nat) (u : Value), cs'[j]? = some u → cellH H (ad.add (i * sz + j)) = some u)
def rPair {α β : Type} (r : Rel α) (q : Rel β) : Rel (α × β) := fun H x cs => ∃ a b, cs = a ++ b ∧ r H x.1 a ∧ q H x.2 b
def Opn (P : Program) {α : Type} (r : Rel α) (t : TypeId) (wf : α → Prop) : Prop :=
  ∀ (D : Type) (enc : TypeId × Value → D) (W : World) (fuel : Nat) (cs : List Value) (x : DataW D × List MemPlace), DataW.trod enc P W 0 (fun _ => true) true fuel t cs = some x → ∃ a, r (hp W) a cs ∧ wf a
section
variable {P : Program} {t e : TypeId}
theorem Opn.int {k : IntKind} (ht : P.underlying t = some (.int k)) : Opn P (rInt k) t (fun n => (Lit.int k n).wf = true) := by
  intro D enc W fuel cs x h
  obtain ⟨n, rfl, _, hn⟩ := DataW.trod_int ht h
  exact ⟨n, rfl, hn⟩
theorem Opn.bool (ht : P.underlying t = some .bool) : Opn P rBool t (fun _ => True) := by
  intro D enc W fuel cs x h
  obtain ⟨b, rfl, _⟩ := DataW.trod_bool ht h
  exact ⟨b, rfl, trivial⟩
theorem chosen {α : Type} {n : Nat} {p : Nat → α → Prop} (h : ∀ i, i < n → ∃ a, p i a) : ∃ l : List α, l.length = n ∧ ∀ i a, l[i]? = some a → p i a := by
  induction n with
  | zero => exact ⟨[], rfl, fun i a h => by simp at h⟩
  | succ n ih =>
    obtain ⟨l, hl, hp⟩ := ih (fun i hi => h i (by omega))
    obtain ⟨a, ha⟩ := h n (by omega)
    refine ⟨l ++ [a], by simp [hl], fun i b hb => ?_⟩
    rcases Nat.lt_or_ge i l.length with hi | hi
    · rw [List.getElem?_append_left hi] at hb
      exact hp i b hb
    · have hi' : i = l.length := by
        have := (List.getElem?_eq_some_iff.1 hb).1
        rw [List.length_append, List.length_singleton] at this
        omega
      subst hi'
      have : a = b := by simpa using hb
      subst this
      rw [hl]
      exact ha
theorem cells_of {w : World} {a : Addr} {n : Nat} {c : List Value} (h : w.cells? 0 a n = some c) : c.length = n ∧ ∀ i u, c[i]? = some u → w.cell? (a.add i) = some u := by
  unfold World.cells? at h
  rw [if_pos (Nat.zero_le _)] at h
  have hl := mapM_some_length h
  rw [List.length_range] at hl
  refine ⟨hl, fun i u hu => ?_⟩
  have hi : i < n := by rw [← hl]; exact (List.getElem?_eq_some_iff.1 hu).1
  have := mapM_some_get h i i (by simp [hi])
  rw [this, hu]
theorem Opn.slice {α : Type} {r : Rel α} {sz : Nat} {wf : α → Prop} (ht : P.underlying t = some (.slice e)) (hc : P.cellsOf e = sz) (he : Opn P r e wf) : Opn P (rSlice sz r) t (fun l => l.length ≤ maxLen ∧ ∀ a ∈ l, wf a) := by
  intro D enc W fuel cs x h
  rcases DataW.trod_slice ht h with ⟨rfl, _⟩ | ⟨a, len, cap, elems, rest, n, _, rfl, _, _, hl, hm, hlen, hel, _⟩
  · exact ⟨[], ⟨none, 0, rfl, Nat.le_refl _, .inl rfl⟩, by simp, fun a ha => by cases ha⟩
  · have each : ∀ i, i < len → ∃ b, ∃ c : List Value, c.length = sz ∧ r (hp W) b c ∧ wf b ∧ ∀ (j : Nat) u, c[j]? = some u → W.cell? (a.add (i * sz + j)) = some u := by
      intro i hi
      have h1 := hel i hi
      rw [hc] at h1
      rw [List.getElem?_eq_getElem (by omega)] at h1
      obtain ⟨c, hcc, hy⟩ := Option.bind_eq_some_iff.1 h1
      obtain ⟨b, hb, hwb⟩ := he D enc W n c _ hy
      obtain ⟨h3, h4⟩ := cells_of hcc
      refine ⟨b, c, h3, hb, hwb, fun j u hu => ?_⟩
      rw [← addr_add]
      exact h4 j u hu
    obtain ⟨l, hll, hp'⟩ := chosen each
    refine ⟨l, ⟨some a, cap, by rw [hll], by omega, .inr ⟨a, rfl, fun i b hb => ?_⟩⟩, by rw [hll]; have : maxLen = 9223372036854775807 := rfl; omega, fun b hb => ?_⟩
    · obtain ⟨c, h1, h2, _, h4⟩ := hp' i b hb
      exact ⟨c, h1, h2, fun j u hu => hp_cell (h4 j u hu)⟩
    · obtain ⟨i, hi, rfl⟩ := List.getElem_of_mem hb
      obtain ⟨_, _, _, h3, _⟩ := hp' i _ (List.getElem?_eq_getElem hi)
      exact h3
/-- The fields of a struct, one by one: what is left from cell 'off' on. -/
theorem pairR {α β : Type} {r : Rel α} {q : Rel β} {H : HH} {x : α} {y : β} {cs : List Value} {off s : Nat} (h0 : r H x ((cs.drop off).take s)) (h1 : q H y (cs.drop (off + s))) : rPair r q H (x, y) (cs.drop off) :=
  ⟨_, _, (List.take_append_drop s _).symm, h0, by rw [List.drop_drop]; exact h1⟩
theorem lastR {α : Type} {r : Rel α} {H : HH} {x : α} {cs : List Value} {off s : Nat} (hl : cs.length = off + s) (h0 : r H x ((cs.drop off).take s)) : r H x (cs.drop off) := by
  rw [List.take_of_length_le (by rw [List.length_drop]; omega)] at h0
  exact h0
theorem fieldAt {D : Type} {enc : TypeId × Value → D} {W : World} {fs : Array Field} {cs : List Value} {n : Nat} {xs : List (DataW D × List MemPlace)} (hx : xs.length = fs.size)
    (hf : ∀ (i : Nat) (f : Field), fs[i]? = some f → DataW.trod enc P W 0 (fun _ => true) true n f.type ((cs.drop f.offset).take (P.cellsOf f.type)) = xs[i]?)
    {α : Type} {r : Rel α} {wf : α → Prop} (i : Nat) (f : Field) (hi : fs[i]? = some f) {T : TypeId} (hT : f.type = T) (ho : Opn P r T wf) (off s : Nat) (h1 : f.offset = off) (h2 : P.cellsOf T = s) : ∃ a, r (hp W) a ((cs.drop off).take s) ∧ wf a := by
  subst hT
  have h := hf i f hi
  have hlt : i < xs.length := by rw [hx]; exact (Array.getElem?_eq_some_iff.1 hi).1
  rw [List.getElem?_eq_getElem hlt, h1, h2] at h
  exact ho D enc W n _ _ h
end
end Go.Proofs.Ytbogcgkeabkliab.HL
end
section
set_option linter.unusedVariables false
namespace Go.Proofs.Ytbogcgkeabkliab.HL
open Go Go.RowKit Go.Proofs.YtbogcgkeabkliabW.PrintWords Go.Proofs.YtbogcgkeabkliabW.PrintMore Go.Proofs.Ytbogcgkeabkliab.PF Go.Proofs.YtbogcgkeabkliabNum Go.Proofs.Ytbogcgkeabkliab.FEv
theorem enters {P : Program} {f : FuncId} {fn : Func} (hf : P.funcs[f]? = some fn) (hc : (fn.name != "runtime.NumGoroutine" && fn.body.isSome) = true) {args : Array Value} (W : World) : (callFunc f args).run P W = .ok (.enter f args) W := by
  simp only [Bool.and_eq_true, bne_iff_ne, ne_eq] at hc
  obtain ⟨hc1, hc2⟩ := hc
  obtain ⟨c, hb⟩ := Option.isSome_iff_exists.1 hc2
  simp [callFunc, hf, hb, hc1]
theorem To.below {base : Nat} {H : HH} {W W' : World} (hs : Sat H W) (h : Below W.heap.size W W') : To base H W H W' :=
  ⟨h.os, h.tape, h.output, h.size, fun k hk _ => h.block k hk, fun b o hb => (h.block b (Array.getElem?_eq_some_iff.1 (hs b o hb)).1).trans (hs b o hb), fun _ _ h => h⟩
theorem HCall.of {P : Program} {base : Nat} {f : FuncId} {args : Array Value} {H : HH} {v : Value} (he : ∀ W, (callFunc f args).run P W = .ok (.enter f args) W) (h : ∀ W, Calls P f args W fun e w' => e = .returned v ∧ Below W.heap.size W w') : HCall P base f args H fun v' H' => v' = v ∧ H' = H :=
  ⟨he, fun W hs hb => (h W).mono fun e W' ⟨h1, h2⟩ => ⟨v, H, h1, ⟨rfl, rfl⟩, .below hs h2⟩⟩
theorem HCall.drew {P : Program} {base : Nat} {f : FuncId} {args : Array Value} {H : HH} {v : Value} (he : ∀ W, (callFunc f args).run P W = .ok (.enter f args) W) (h : ∀ W, Calls P f args W fun e w' => e = .returned v ∧ Drawn0 W w') : HCall P base f args H fun v' H' => v' = v ∧ H' = H :=
  .of he fun W => (h W).mono fun e W' ⟨h1, h2⟩ => ⟨h1, h2.below⟩
theorem HCall.to {P : Program} {base : Nat} {f : FuncId} {args : Array Value} {H : HH} {v : Value} {K : Value → HH → Prop} (h : HCall P base f args H fun v' H' => v' = v ∧ H' = H) (hk : K v H) : HCall P base f args H K :=
  h.use fun v' H' ⟨h1, h2⟩ => by subst h1; subst h2; exact hk
section
variable {p : Nat} [NeZero p] {base : Nat} {H : HH} {K : Value → HH → Prop}
theorem h_add (hp : Sup p) (a b : Fin p) (hk : K (.int .u64 (V (a + b))) H) : HCall Try.prog base 57 #[.int .u64 p, .int .u64 (V a), .int .u64 (V b)] H K := by
  obtain ⟨k, hk'⟩ := (add_ev hp a b).rounds
  exact (HCall.drew (enters Try.func57 (by kernel_rfl)) (fun W => field_Add.calls k _ _ _ _ W hk')).to hk
theorem h_mul (hp : Sup p) (a b : Fin p) (hk : K (.int .u64 (V (a * b))) H) : HCall Try.prog base 29 #[.int .u64 p, .int .u64 (V a), .int .u64 (V b)] H K := by
  obtain ⟨k, hk'⟩ := (mul_ev hp a b).rounds
  exact (HCall.drew (enters Try.func29 (by kernel_rfl)) (fun W => field_Mul.calls k _ _ _ _ W hk')).to hk
theorem h_sub (hp : Sup p) (a b : Fin p) (hk : K (.int .u64 (V (a - b))) H) : HCall Try.prog base 80 #[.int .u64 p, .int .u64 (V a), .int .u64 (V b)] H K := by
  obtain ⟨k, hk'⟩ := (sub_ev hp a b).rounds
  exact (HCall.drew (enters Try.func80 (by kernel_rfl)) (fun W => field_Sub.calls k _ _ _ _ W hk')).to hk
theorem h_neg (hp : Sup p) (a : Fin p) (hk : K (.int .u64 (V (-a))) H) : HCall Try.prog base 78 #[.int .u64 p, .int .u64 (V a)] H K :=
  (HCall.drew (enters Try.func78 (by kernel_rfl)) (fun W => field_Neg.calls _ _ _ W (neg_eq hp a))).to hk
theorem h_inv (hp : Sup p) {a : Fin p} (ha : a ≠ 0) (hk : K (.tuple #[.int .u64 (V (inv a)), .int .i64 0]) H) : HCall Try.prog base 79 #[.int .u64 p, .int .u64 (V a)] H K := by
  obtain ⟨k, hk'⟩ := (inverse_ev hp ha).rounds
  exact (HCall.drew (enters Try.func79 (by kernel_rfl)) (fun W => field_Inverse.calls k _ _ _ _ W hk')).to hk
end
def supB (x : Int) : Bool := [31, 127, 8191, 131071, 524287, 2147483647, 2305843009213693951].contains x
theorem supB_iff {x : Int} : supB x = true ↔ ∃ p : Nat, Sup p ∧ x = p := by
  simp only [supB, List.contains_cons, List.contains_nil, Bool.or_false, Bool.or_eq_true, beq_iff_eq]
  constructor
  · intro h
    exact ⟨x.toNat, by unfold Sup; omega, by omega⟩
  · rintro ⟨p, h, rfl⟩
    unfold Sup at h
    omega
theorem sup_ev (x : Int) : Ev (fun k => privityref01_Supported.f k x) (supB x) := by
  unfold privityref01_Supported.f privityref01_Exponent.f privityref01_exps.f
  simp only [Option.bind_some]
  have st : ∀ (j : Nat) (q pj : Int), j < 7 → rd [5, 7, 13, 17, 19, 31, 61] (j : Int) = q → IntKind.u64.wrap ((shl .u64 1 (IntKind.u64.wrap q)) - 1) = pj → 0 ≤ IntKind.u64.wrap q → ∀ k, privityref01_Exponent.l0 (k + 1) x [5, 7, 13, 17, 19, 31, 61] j = if x = pj then some q else privityref01_Exponent.l0 k x [5, 7, 13, 17, 19, 31, 61] ((j + 1 : Nat) : Int) := by
    intro j q pj hj h1 h2 h3 k
    rw [privityref01_Exponent.l0, if_pos (by simp; omega), if_pos (by omega), h1, if_pos h3, h2, show wrap64 ((j : Int) + 1) = ((j + 1 : Nat) : Int) by unfold wrap64; omega]
  refine ⟨8, fun k hk => ?_⟩
  obtain ⟨m, rfl⟩ : ∃ m, k = m + 1 + 1 + 1 + 1 + 1 + 1 + 1 + 1 := ⟨k - 8, by omega⟩
  have := st 0 5 31 (by decide) rfl (by decide) (by decide) (m + 1 + 1 + 1 + 1 + 1 + 1 + 1)
  rw [show ((0 : Nat) : Int) = 0 from rfl] at this
  dsimp only
  rw [this, st 1 7 127 (by decide) rfl (by decide) (by decide), st 2 13 8191 (by decide) rfl (by decide) (by decide), st 3 17 131071 (by decide) rfl (by decide) (by decide), st 4 19 524287 (by decide) rfl (by decide) (by decide), st 5 31 2147483647 (by decide) rfl (by decide) (by decide), st 6 61 2305843009213693951 (by decide) rfl (by decide) (by decide)]
  have last : privityref01_Exponent.l0 (m + 1) x [5, 7, 13, 17, 19, 31, 61] ((6 + 1 : Nat) : Int) = some 0 := by rw [privityref01_Exponent.l0, if_neg (by decide)]
  rw [last]
  clear this st last
  unfold supB
  simp only [List.contains_cons, List.contains_nil, Bool.or_false]
  repeat' split
  all_goals simp_all
theorem h_sup {base : Nat} {H : HH} {K : Value → HH → Prop} (x : Int) (hk : K (.bool (supB x)) H) : HCall Try.prog base 48 #[.int .u64 x] H K := by
  obtain ⟨k, hk'⟩ := (sup_ev x).rounds
  exact (HCall.of (enters Try.func48 (by kernel_rfl)) (fun W => privityref01_Supported.calls k _ _ W hk')).to hk
end Go.Proofs.Ytbogcgkeabkliab.HL
end
section
set_option linter.unusedVariables false
set_option linter.unusedSimpArgs false
set_option maxRecDepth 100000
namespace Go.Proofs.Ytbogcgkeabkliab.HL
open Go
theorem mix : Try.prog.follows .mixedOrders = true := by kernel_rfl
def matrix_rect_1.ann : Ann := ⟨fun k => [], fun k => false, fun k => []⟩
def matrix_rect_1.sh (base : Nat) (Ax0 : Option Addr) (lx0 cx0 : Nat) (x1 : Addr) (H0 : HH) (K : Value → HH → Prop) : Prop :=
 ∃ (A1 : Option Addr) (l1 c1 : Nat), QRun Try.prog (Instr.loadAt 23 (.pointer ((some x1)))) H0 (.slice A1 l1 c1) ∧
 ∃ a2 : Addr, AQ Try.prog (Instr.indexAt 23 (.slice A1 l1 c1) (.int .i64 0)) (.pointer ((some a2))) ∧
 ∃ (A3 : Option Addr) (l3 c3 : Nat), QRun Try.prog (Instr.loadAt 32 (.pointer ((some a2)))) H0 (.slice A3 l3 c3) ∧
 K (.bool (((((lx0 : Nat) : Int) : Int) != (((l3 : Nat) : Int))))) H0
theorem matrix_rect_1.spec {base : Nat} {Ax0 : Option Addr} {lx0 cx0 : Nat} {x1 : Addr} {H0 : HH} {K : Value → HH → Prop} (h : matrix_rect_1.sh base Ax0 lx0 cx0 x1 H0 K) : HCall Try.prog base 76 #[(.slice Ax0 lx0 cx0), (.pointer ((some x1)))] H0 K := spec_of_wpC (n := 11) (ann := matrix_rect_1.ann) mix Try.func76 (by kernel_rfl) (cast (show matrix_rect_1.sh base Ax0 lx0 cx0 x1 H0 K = wpC Try.prog base 11 matrix_rect_1.ann (bodyOf Try.f76) (ofL [(.slice Ax0 lx0 cx0), (.pointer ((some x1)))]) H0 (retQ Try.prog 11 Try.f76 K) by kernel_rfl) h)
def slices_IndexFunc_LLuint64_Luint64.ann : Ann := ⟨fun k => [], fun k => false, fun k => bif Nat.beq k 2 then [0, 1, 7, 8] else []⟩
def slices_IndexFunc_LLuint64_Luint64.P0 (base : Nat) (l : List Value) (H0 : HH) (K : Value → HH → Prop) : Prop := HCodeL Try.prog base 19 (codeAt [.r, .l, .r, .b] (bodyOf Try.f88)) [0, 1, 7, 8] l H0 (qAt Try.prog base 19 slices_IndexFunc_LLuint64_Luint64.ann [.r, .l, .r, .b] [] (bodyOf Try.f88) (retQ Try.prog 19 Try.f88 K))
def slices_IndexFunc_LLuint64_Luint64.sh (base : Nat) (Ax0 : Option Addr) (lx0 cx0 : Nat) (x1_0 : Addr) (H0 : HH) (K : Value → HH → Prop) : Prop :=
 slices_IndexFunc_LLuint64_Luint64.P0 base [(.slice Ax0 lx0 cx0), (.func (.func 76) #[] #[(.pointer ((some x1_0)))]), (.int .i64 (((lx0 : Nat) : Int))), (.int .i64 0)] H0 K
theorem slices_IndexFunc_LLuint64_Luint64.spec {base : Nat} {Ax0 : Option Addr} {lx0 cx0 : Nat} {x1_0 : Addr} {H0 : HH} {K : Value → HH → Prop} (h : slices_IndexFunc_LLuint64_Luint64.sh base Ax0 lx0 cx0 x1_0 H0 K) : HCall Try.prog base 88 #[(.slice Ax0 lx0 cx0), (.func (.func 76) #[] #[(.pointer ((some x1_0)))])] H0 K := spec_of_wpC (n := 19) (ann := slices_IndexFunc_LLuint64_Luint64.ann) mix Try.func88 (by kernel_rfl) (cast (show slices_IndexFunc_LLuint64_Luint64.sh base Ax0 lx0 cx0 x1_0 H0 K = wpC Try.prog base 19 slices_IndexFunc_LLuint64_Luint64.ann (bodyOf Try.f88) (ofL [(.slice Ax0 lx0 cx0), (.func (.func 76) #[] #[(.pointer ((some x1_0)))])]) H0 (retQ Try.prog 19 Try.f88 K) by kernel_rfl) h)
def slices_IndexFunc_LLuint64_Luint64.B0 (base : Nat) (Ax0 : Option Addr) (lx0 cx0 : Nat) (x1_0 : Addr) (x7 : Int) (y8 : Int) (g : Fr) (N0 : Value → HH → Prop) (H0 : HH) (K : Value → HH → Prop) : Prop :=
 if (decide ((y8 : Int) < x7)) = true then
 ∃ a1 : Addr, AQ Try.prog (Instr.indexAt 23 (.slice Ax0 lx0 cx0) (.int .i64 y8)) (.pointer ((some a1))) ∧
 ∃ (A2 : Option Addr) (l2 c2 : Nat), QRun Try.prog (Instr.loadAt 32 (.pointer ((some a1)))) H0 (.slice A2 l2 c2) ∧
 HCall Try.prog base 76 #[(.slice A2 l2 c2), (.pointer ((some x1_0)))] H0 fun v3 H4 =>
 ∃ b5 : Bool, v3 = (.bool b5) ∧ if b5 = true then
 K (.int .i64 y8) H4
 else
 N0 (.int .i64 ((IntKind.i64.wrap (y8 + 1)))) H4
 else
 K (.int .i64 ((-1))) H0
theorem slices_IndexFunc_LLuint64_Luint64.loop0 {base : Nat} {Ax0 : Option Addr} {lx0 cx0 : Nat} {x1_0 : Addr} {x7 y8_i : Int} {H0 : HH} {K : Value → HH → Prop} (J : Nat → Int → HH → Prop) (n : Nat) (h0 : J n y8_i H0)
    (hs : ∀ (n : Nat) (y8 : Int) (g : Fr) (H0 : HH), J n y8 H0 → slices_IndexFunc_LLuint64_Luint64.B0 base Ax0 lx0 cx0 x1_0 x7 y8 g (fun w8 H => ∃ n', n' < n ∧ ∃ (y8' : Int), w8 = (.int .i64 y8') ∧ J n' y8' H) H0 K) : slices_IndexFunc_LLuint64_Luint64.P0 base [(.slice Ax0 lx0 cx0), (.func (.func 76) #[] #[(.pointer ((some x1_0)))]), (.int .i64 x7), (.int .i64 y8_i)] H0 K := by
  refine loop_rule (ann := slices_IndexFunc_LLuint64_Luint64.ann) (body := codeAt [.r, .l, .r, .b, .lp] (bodyOf Try.f88)) mix (by kernel_rfl) 524080 (by kernel_rfl) [0, 1, 7] [(.slice Ax0 lx0 cx0), (.func (.func 76) #[] #[(.pointer ((some x1_0)))]), (.int .i64 x7)] (by kernel_rfl) (fun fr ⟨e0, e1, e7, e8, _⟩ => ⟨e0, e1, e7, trivial⟩) (fun n g H => ∃ (y8 : Int), g 8 = (.int .i64 y8) ∧ J n y8 H) n (fun fr ⟨e0, e1, e7, e8, _⟩ => ⟨y8_i, e8, h0⟩) ?_
  rintro n g H0 ⟨e0, e1, e7, _⟩ ⟨y8, e8, hJ⟩
  rw [← ov_eq (g := g) [(0, (.slice Ax0 lx0 cx0)), (1, (.func (.func 76) #[] #[(.pointer ((some x1_0)))])), (7, (.int .i64 x7)), (8, (.int .i64 y8))] (by simp only [List.mem_cons, List.not_mem_nil, or_false, forall_eq_or_imp, forall_eq, false_implies, implies_true]; exact ⟨e0, e1, e7, e8⟩)]
  have key : ∀ NN : Value → HH → Prop, slices_IndexFunc_LLuint64_Luint64.B0 base Ax0 lx0 cx0 x1_0 x7 y8 g NN H0 K = wpC Try.prog base 19 slices_IndexFunc_LLuint64_Luint64.ann (codeAt [.r, .l, .r, .b, .lp] (bodyOf Try.f88)) (ov g [(0, (.slice Ax0 lx0 cx0)), (1, (.func (.func 76) #[] #[(.pointer ((some x1_0)))])), (7, (.int .i64 x7)), (8, (.int .i64 y8))]) H0 (thenQ (fun fr H => NN (fr 8) H) (qAt Try.prog base 19 slices_IndexFunc_LLuint64_Luint64.ann [.r, .l, .r, .b] [] (bodyOf Try.f88) (retQ Try.prog 19 Try.f88 K))) := fun NN => by kernel_rfl
  refine cast ?_ (hs n y8 g H0 hJ)
  refine (key (fun w8 H => ∃ n', n' < n ∧ ∃ (y8' : Int), w8 = (.int .i64 y8') ∧ J n' y8' H)).trans ?_
  kernel_rfl
def slices_ContainsFunc_LLuint64_Luint64.ann : Ann := ⟨fun k => [], fun k => false, fun k => []⟩
def slices_ContainsFunc_LLuint64_Luint64.sh (base : Nat) (Ax0 : Option Addr) (lx0 cx0 : Nat) (x1_0 : Addr) (H0 : HH) (K : Value → HH → Prop) : Prop :=
 HCall Try.prog base 88 #[(.slice Ax0 lx0 cx0), (.func (.func 76) #[] #[(.pointer ((some x1_0)))])] H0 fun v1 H2 =>
 ∃ n3 : Int, v1 = (.int .i64 n3) ∧ K (.bool ((decide ((n3 : Int) ≥ 0)))) H2
theorem slices_ContainsFunc_LLuint64_Luint64.spec {base : Nat} {Ax0 : Option Addr} {lx0 cx0 : Nat} {x1_0 : Addr} {H0 : HH} {K : Value → HH → Prop} (h : slices_ContainsFunc_LLuint64_Luint64.sh base Ax0 lx0 cx0 x1_0 H0 K) : HCall Try.prog base 75 #[(.slice Ax0 lx0 cx0), (.func (.func 76) #[] #[(.pointer ((some x1_0)))])] H0 K := spec_of_wpC (n := 9) (ann := slices_ContainsFunc_LLuint64_Luint64.ann) mix Try.func75 (by kernel_rfl) (cast (show slices_ContainsFunc_LLuint64_Luint64.sh base Ax0 lx0 cx0 x1_0 H0 K = wpC Try.prog base 9 slices_ContainsFunc_LLuint64_Luint64.ann (bodyOf Try.f75) (ofL [(.slice Ax0 lx0 cx0), (.func (.func 76) #[] #[(.pointer ((some x1_0)))])]) H0 (retQ Try.prog 9 Try.f75 K) by kernel_rfl) h)
def matrix_rect.ann : Ann := ⟨fun k => [], fun k => false, fun k => []⟩
def matrix_rect.sh (base : Nat) (Ax0 : Option Addr) (lx0 cx0 : Nat) (H0 : HH) (K : Value → HH → Prop) : Prop :=
 HRun Try.prog base (Instr.box 23 (.slice Ax0 lx0 cx0)) H0 fun v1 H2 =>
 ∃ a3 : Addr, v1 = (.pointer ((some a3))) ∧ ∃ (A4 : Option Addr) (l4 c4 : Nat), QRun Try.prog (Instr.loadAt 23 (.pointer ((some a3)))) H2 (.slice A4 l4 c4) ∧
 HCall Try.prog base 75 #[(.slice A4 l4 c4), (.func (.func 76) #[] #[(.pointer ((some a3)))])] H2 fun v5 H6 =>
 ∃ b7 : Bool, v5 = (.bool b7) ∧ K (.bool ((!b7))) H6
theorem matrix_rect.spec {base : Nat} {Ax0 : Option Addr} {lx0 cx0 : Nat} {H0 : HH} {K : Value → HH → Prop} (h : matrix_rect.sh base Ax0 lx0 cx0 H0 K) : HCall Try.prog base 49 #[(.slice Ax0 lx0 cx0)] H0 K := spec_of_wpC (n := 7) (ann := matrix_rect.ann) mix Try.func49 (by kernel_rfl) (cast (show matrix_rect.sh base Ax0 lx0 cx0 H0 K = wpC Try.prog base 7 matrix_rect.ann (bodyOf Try.f49) (ofL [(.slice Ax0 lx0 cx0)]) H0 (retQ Try.prog 7 Try.f49 K) by kernel_rfl) h)
def matrix_cols.ann : Ann := ⟨fun k => [], fun k => false, fun k => []⟩
def matrix_cols.sh (base : Nat) (Ax0 : Option Addr) (lx0 cx0 : Nat) (H0 : HH) (K : Value → HH → Prop) : Prop :=
 if ((((lx0 : Nat) : Int) : Int) == 0) = true then
 K (.int .i64 0) H0
 else
 ∃ a1 : Addr, AQ Try.prog (Instr.indexAt 23 (.slice Ax0 lx0 cx0) (.int .i64 0)) (.pointer ((some a1))) ∧
 ∃ (A2 : Option Addr) (l2 c2 : Nat), QRun Try.prog (Instr.loadAt 32 (.pointer ((some a1)))) H0 (.slice A2 l2 c2) ∧
 K (.int .i64 (((l2 : Nat) : Int))) H0
theorem matrix_cols.spec {base : Nat} {Ax0 : Option Addr} {lx0 cx0 : Nat} {H0 : HH} {K : Value → HH → Prop} (h : matrix_cols.sh base Ax0 lx0 cx0 H0 K) : HCall Try.prog base 51 #[(.slice Ax0 lx0 cx0)] H0 K := spec_of_wpC (n := 10) (ann := matrix_cols.ann) mix Try.func51 (by kernel_rfl) (cast (show matrix_cols.sh base Ax0 lx0 cx0 H0 K = wpC Try.prog base 10 matrix_cols.ann (bodyOf Try.f51) (ofL [(.slice Ax0 lx0 cx0)]) H0 (retQ Try.prog 10 Try.f51 K) by kernel_rfl) h)
def matrix_square.ann : Ann := ⟨fun k => [], fun k => false, fun k => []⟩
def matrix_square.sh (base : Nat) (Ax0 : Option Addr) (lx0 cx0 : Nat) (H0 : HH) (K : Value → HH → Prop) : Prop :=
 if (decide ((((lx0 : Nat) : Int) : Int) > 0)) = true then
 HCall Try.prog base 49 #[(.slice Ax0 lx0 cx0)] H0 fun v1 H2 =>
 ∃ b3 : Bool, v1 = (.bool b3) ∧ if b3 = true then
 HCall Try.prog base 51 #[(.slice Ax0 lx0 cx0)] H2 fun v4 H5 =>
 ∃ n6 : Int, v4 = (.int .i64 n6) ∧ K (.bool (((((lx0 : Nat) : Int) : Int) == n6))) H5
 else
 K (.bool false) H2
 else
 K (.bool false) H0
theorem matrix_square.spec {base : Nat} {Ax0 : Option Addr} {lx0 cx0 : Nat} {H0 : HH} {K : Value → HH → Prop} (h : matrix_square.sh base Ax0 lx0 cx0 H0 K) : HCall Try.prog base 53 #[(.slice Ax0 lx0 cx0)] H0 K := spec_of_wpC (n := 17) (ann := matrix_square.ann) mix Try.func53 (by kernel_rfl) (cast (show matrix_square.sh base Ax0 lx0 cx0 H0 K = wpC Try.prog base 17 matrix_square.ann (bodyOf Try.f53) (ofL [(.slice Ax0 lx0 cx0)]) H0 (retQ Try.prog 17 Try.f53 K) by kernel_rfl) h)
def matrix_dot.ann : Ann := ⟨fun k => [], fun k => false, fun k => bif Nat.beq k 3 then [0, 2, 7, 10, 11, 12] else []⟩
def slices_Clone_Luint64_uint64.ann : Ann := ⟨fun k => [], fun k => false, fun k => []⟩
def slices_Clone_Luint64_uint64.sh (base : Nat) (Ax0 : Option Addr) (lx0 cx0 : Nat) (H0 : HH) (K : Value → HH → Prop) : Prop :=
 ∃ b1 : Bool, AQ Try.prog (binSem .eql 32 (.tmp 3) (.const (.slice none 0 0)) (.slice Ax0 lx0 cx0) (.slice none 0 0)) (.bool b1) ∧
 if b1 = true then
 K (.slice none 0 0) H0
 else
 HRun Try.prog base (Instr.buildSlice 32 0 #[]) H0 fun v2 H3 =>
 ∃ (A4 : Option Addr) (l4 c4 : Nat), v2 = (.slice A4 l4 c4) ∧ HRun Try.prog base (Builtin.append_ #[32, 32] 32 #[(.slice A4 l4 c4), (.slice Ax0 lx0 cx0)]) H3 fun v5 H6 =>
 ∃ (A7 : Option Addr) (l7 c7 : Nat), v5 = (.slice A7 l7 c7) ∧ K (.slice A7 l7 c7) H6
theorem slices_Clone_Luint64_uint64.spec {base : Nat} {Ax0 : Option Addr} {lx0 cx0 : Nat} {H0 : HH} {K : Value → HH → Prop} (h : slices_Clone_Luint64_uint64.sh base Ax0 lx0 cx0 H0 K) : HCall Try.prog base 55 #[(.slice Ax0 lx0 cx0)] H0 K := spec_of_wpC (n := 8) (ann := slices_Clone_Luint64_uint64.ann) mix Try.func55 (by kernel_rfl) (cast (show slices_Clone_Luint64_uint64.sh base Ax0 lx0 cx0 H0 K = wpC Try.prog base 8 slices_Clone_Luint64_uint64.ann (bodyOf Try.f55) (ofL [(.slice Ax0 lx0 cx0)]) H0 (retQ Try.prog 8 Try.f55 K) by kernel_rfl) h)
def slices_Clone_LLuint64_Luint64.ann : Ann := ⟨fun k => [], fun k => false, fun k => []⟩
def slices_Clone_LLuint64_Luint64.sh (base : Nat) (Ax0 : Option Addr) (lx0 cx0 : Nat) (H0 : HH) (K : Value → HH → Prop) : Prop :=
 ∃ b1 : Bool, AQ Try.prog (binSem .eql 23 (.tmp 3) (.const (.slice none 0 0)) (.slice Ax0 lx0 cx0) (.slice none 0 0)) (.bool b1) ∧
 if b1 = true then
 K (.slice none 0 0) H0
 else
 HRun Try.prog base (Instr.buildSlice 23 0 #[]) H0 fun v2 H3 =>
 ∃ (A4 : Option Addr) (l4 c4 : Nat), v2 = (.slice A4 l4 c4) ∧ HRun Try.prog base (Builtin.append_ #[23, 23] 23 #[(.slice A4 l4 c4), (.slice Ax0 lx0 cx0)]) H3 fun v5 H6 =>
 ∃ (A7 : Option Addr) (l7 c7 : Nat), v5 = (.slice A7 l7 c7) ∧ K (.slice A7 l7 c7) H6
theorem slices_Clone_LLuint64_Luint64.spec {base : Nat} {Ax0 : Option Addr} {lx0 cx0 : Nat} {H0 : HH} {K : Value → HH → Prop} (h : slices_Clone_LLuint64_Luint64.sh base Ax0 lx0 cx0 H0 K) : HCall Try.prog base 77 #[(.slice Ax0 lx0 cx0)] H0 K := spec_of_wpC (n := 8) (ann := slices_Clone_LLuint64_Luint64.ann) mix Try.func77 (by kernel_rfl) (cast (show slices_Clone_LLuint64_Luint64.sh base Ax0 lx0 cx0 H0 K = wpC Try.prog base 8 slices_Clone_LLuint64_Luint64.ann (bodyOf Try.f77) (ofL [(.slice Ax0 lx0 cx0)]) H0 (retQ Try.prog 8 Try.f77 K) by kernel_rfl) h)
def matrix_Mul.ann : Ann := ⟨fun k => bif Nat.beq k 14 then [13] else [], fun k => false, fun k => bif Nat.beq k 5 then [0, 2, 8, 31, 32, 33] else bif Nat.beq k 9 then [0, 2, 8, 11, 31, 32, 33, 40, 41, 42] else bif Nat.beq k 12 then [0, 2, 8, 11, 13, 31, 32, 33, 40, 41, 42, 50, 51, 52] else []⟩
def matrix_Mul.P0 (base : Nat) (l : List Value) (H0 : HH) (K : Value → HH → Prop) : Prop := HCodeL Try.prog base 78 (codeAt [.r, .r, .r, .l, .r, .b] (bodyOf Try.f25)) [0, 2, 8, 31, 32, 33] l H0 (qAt Try.prog base 78 matrix_Mul.ann [.r, .r, .r, .l, .r, .b] [] (bodyOf Try.f25) (retQ Try.prog 78 Try.f25 K))
def matrix_Mul.P1 (base : Nat) (N0 : Value → Value → HH → Prop) (l : List Value) (H0 : HH) (K : Value → HH → Prop) : Prop := HCodeL Try.prog base 78 (codeAt [.r, .r, .r, .l, .r, .b, .lp, .r, .r, .l, .b, .r, .r, .l, .r, .b] (bodyOf Try.f25)) [0, 2, 8, 11, 31, 32, 33, 40, 41, 42] l H0 (qAt Try.prog base 78 matrix_Mul.ann [.r, .r, .r, .l, .r, .b, .lp, .r, .r, .l, .b, .r, .r, .l, .r, .b] [fun fr H => N0 (fr 8) (fr 33) H] (bodyOf Try.f25) (retQ Try.prog 78 Try.f25 K))
def matrix_Mul.P2 (base : Nat) (N0 : Value → Value → HH → Prop) (N1 : Value → HH → Prop) (l : List Value) (H0 : HH) (K : Value → HH → Prop) : Prop := HCodeL Try.prog base 78 (codeAt [.r, .r, .r, .l, .r, .b, .lp, .r, .r, .l, .b, .r, .r, .l, .r, .b, .lp, .r, .r, .l, .b, .r, .r, .b] (bodyOf Try.f25)) [0, 2, 8, 11, 13, 31, 32, 33, 40, 41, 42, 50, 51, 52] l H0 (qAt Try.prog base 78 matrix_Mul.ann [.r, .r, .r, .l, .r, .b, .lp, .r, .r, .l, .b, .r, .r, .l, .r, .b, .lp, .r, .r, .l, .b, .r, .r, .b] [fun fr H => N0 (fr 8) (fr 33) H, fun fr H => N1 (fr 42) H] (bodyOf Try.f25) (retQ Try.prog 78 Try.f25 K))
def matrix_Mul.sh (base : Nat) (x0 : Int) (Ax1 : Option Addr) (lx1 cx1 : Nat) (Ax2 : Option Addr) (lx2 cx2 : Nat) (H0 : HH) (K : Value → HH → Prop) : Prop :=
 HCall Try.prog base 49 #[(.slice Ax1 lx1 cx1)] H0 fun v1 H2 =>
 ∃ b3 : Bool, v1 = (.bool b3) ∧ if (!b3) = false then
 HCall Try.prog base 49 #[(.slice Ax2 lx2 cx2)] H2 fun v4 H5 =>
 ∃ b6 : Bool, v4 = (.bool b6) ∧ if (!b6) = false then
 HCall Try.prog base 51 #[(.slice Ax1 lx1 cx1)] H5 fun v7 H8 =>
 ∃ n9 : Int, v7 = (.int .i64 n9) ∧ if ((n9 : Int) != (((lx2 : Nat) : Int))) = true then
 K (.tuple #[(.slice none 0 0), (.int .i64 1)]) H8
 else
 matrix_Mul.P0 base [(.int .u64 x0), (.slice Ax2 lx2 cx2), (.slice none 0 0), (.slice Ax1 lx1 cx1), (.int .i64 (((lx1 : Nat) : Int))), (.int .i64 0)] H8 K
 else
 K (.tuple #[(.slice none 0 0), (.int .i64 1)]) H5
 else
 K (.tuple #[(.slice none 0 0), (.int .i64 1)]) H2
theorem matrix_Mul.spec {base : Nat} {x0 : Int} {Ax1 : Option Addr} {lx1 cx1 : Nat} {Ax2 : Option Addr} {lx2 cx2 : Nat} {H0 : HH} {K : Value → HH → Prop} (h : matrix_Mul.sh base x0 Ax1 lx1 cx1 Ax2 lx2 cx2 H0 K) : HCall Try.prog base 25 #[(.int .u64 x0), (.slice Ax1 lx1 cx1), (.slice Ax2 lx2 cx2)] H0 K := spec_of_wpC (n := 78) (ann := matrix_Mul.ann) mix Try.func25 (by kernel_rfl) (cast (show matrix_Mul.sh base x0 Ax1 lx1 cx1 Ax2 lx2 cx2 H0 K = wpC Try.prog base 78 matrix_Mul.ann (bodyOf Try.f25) (ofL [(.int .u64 x0), (.slice Ax1 lx1 cx1), (.slice Ax2 lx2 cx2)]) H0 (retQ Try.prog 78 Try.f25 K) by kernel_rfl) h)
def matrix_Mul.B0 (base : Nat) (x0 : Int) (Ax2 : Option Addr) (lx2 cx2 : Nat) (Ax31 : Option Addr) (lx31 cx31 : Nat) (x32 : Int) (Ay8 : Option Addr) (ly8 cy8 : Nat) (y33 : Int) (g : Fr) (N0 : Value → Value → HH → Prop) (H0 : HH) (K : Value → HH → Prop) : Prop :=
 if (decide ((y33 : Int) < x32)) = true then
 ∃ a10 : Addr, AQ Try.prog (Instr.indexAt 23 (.slice Ax31 lx31 cx31) (.int .i64 y33)) (.pointer ((some a10))) ∧
 ∃ (A11 : Option Addr) (l11 c11 : Nat), QRun Try.prog (Instr.loadAt 32 (.pointer ((some a10)))) H0 (.slice A11 l11 c11) ∧
 HCall Try.prog base 51 #[(.slice Ax2 lx2 cx2)] H0 fun v12 H13 =>
 ∃ n14 : Int, v12 = (.int .i64 n14) ∧ HRun Try.prog base (Instr.makeSlice 32 (.int .i64 n14) (.int .i64 n14)) H13 fun v15 H16 =>
 ∃ (A17 : Option Addr) (l17 c17 : Nat), v15 = (.slice A17 l17 c17) ∧ matrix_Mul.P1 base N0 [(.int .u64 x0), (.slice Ax2 lx2 cx2), (.slice Ay8 ly8 cy8), (.slice A17 l17 c17), (.slice Ax31 lx31 cx31), (.int .i64 x32), (.int .i64 y33), (.slice A11 l11 c11), (.int .i64 (((l11 : Nat) : Int))), (.int .i64 0)] H16 K
 else
 K (.tuple #[(.slice Ay8 ly8 cy8), (.int .i64 0)]) H0
theorem matrix_Mul.loop0 {base : Nat} {x0 : Int} {Ax2 : Option Addr} {lx2 cx2 : Nat} {Ax31 : Option Addr} {lx31 cx31 : Nat} {x32 : Int} {Ay8_i : Option Addr} {ly8_i cy8_i : Nat} {y33_i : Int} {H0 : HH} {K : Value → HH → Prop} (J : Nat → Option Addr → Nat → Nat → Int → HH → Prop) (n : Nat) (h0 : J n Ay8_i ly8_i cy8_i y33_i H0)
    (hs : ∀ (n : Nat) (Ay8 : Option Addr) (ly8 cy8 : Nat) (y33 : Int) (g : Fr) (H0 : HH), J n Ay8 ly8 cy8 y33 H0 → matrix_Mul.B0 base x0 Ax2 lx2 cx2 Ax31 lx31 cx31 x32 Ay8 ly8 cy8 y33 g (fun w8 w33 H => ∃ n', n' < n ∧ ∃ (Ay8' : Option Addr) (ly8' cy8' : Nat) (y33' : Int), w8 = (.slice Ay8' ly8' cy8') ∧ w33 = (.int .i64 y33') ∧ J n' Ay8' ly8' cy8' y33' H) H0 K) : matrix_Mul.P0 base [(.int .u64 x0), (.slice Ax2 lx2 cx2), (.slice Ay8_i ly8_i cy8_i), (.slice Ax31 lx31 cx31), (.int .i64 x32), (.int .i64 y33_i)] H0 K := by
  refine loop_rule (ann := matrix_Mul.ann) (body := codeAt [.r, .r, .r, .l, .r, .b, .lp] (bodyOf Try.f25)) mix (by kernel_rfl) 151115727451820056968448 (by kernel_rfl) [0, 2, 31, 32] [(.int .u64 x0), (.slice Ax2 lx2 cx2), (.slice Ax31 lx31 cx31), (.int .i64 x32)] (by kernel_rfl) (fun fr ⟨e0, e2, e8, e31, e32, e33, _⟩ => ⟨e0, e2, e31, e32, trivial⟩) (fun n g H => ∃ (Ay8 : Option Addr) (ly8 cy8 : Nat) (y33 : Int), g 8 = (.slice Ay8 ly8 cy8) ∧ g 33 = (.int .i64 y33) ∧ J n Ay8 ly8 cy8 y33 H) n (fun fr ⟨e0, e2, e8, e31, e32, e33, _⟩ => ⟨Ay8_i, ly8_i, cy8_i, y33_i, e8, e33, h0⟩) ?_
  rintro n g H0 ⟨e0, e2, e31, e32, _⟩ ⟨Ay8, ly8, cy8, y33, e8, e33, hJ⟩
  rw [← ov_eq (g := g) [(0, (.int .u64 x0)), (2, (.slice Ax2 lx2 cx2)), (8, (.slice Ay8 ly8 cy8)), (31, (.slice Ax31 lx31 cx31)), (32, (.int .i64 x32)), (33, (.int .i64 y33))] (by simp only [List.mem_cons, List.not_mem_nil, or_false, forall_eq_or_imp, forall_eq, false_implies, implies_true]; exact ⟨e0, e2, e8, e31, e32, e33⟩)]
  have key : ∀ NN : Value → Value → HH → Prop, matrix_Mul.B0 base x0 Ax2 lx2 cx2 Ax31 lx31 cx31 x32 Ay8 ly8 cy8 y33 g NN H0 K = wpC Try.prog base 78 matrix_Mul.ann (codeAt [.r, .r, .r, .l, .r, .b, .lp] (bodyOf Try.f25)) (ov g [(0, (.int .u64 x0)), (2, (.slice Ax2 lx2 cx2)), (8, (.slice Ay8 ly8 cy8)), (31, (.slice Ax31 lx31 cx31)), (32, (.int .i64 x32)), (33, (.int .i64 y33))]) H0 (thenQ (fun fr H => NN (fr 8) (fr 33) H) (qAt Try.prog base 78 matrix_Mul.ann [.r, .r, .r, .l, .r, .b] [] (bodyOf Try.f25) (retQ Try.prog 78 Try.f25 K))) := fun NN => by kernel_rfl
  refine cast ?_ (hs n Ay8 ly8 cy8 y33 g H0 hJ)
  refine (key (fun w8 w33 H => ∃ n', n' < n ∧ ∃ (Ay8' : Option Addr) (ly8' cy8' : Nat) (y33' : Int), w8 = (.slice Ay8' ly8' cy8') ∧ w33 = (.int .i64 y33') ∧ J n' Ay8' ly8' cy8' y33' H)).trans ?_
  kernel_rfl
def matrix_Mul.B1 (base : Nat) (N0 : Value → Value → HH → Prop) (x0 : Int) (Ax2 : Option Addr) (lx2 cx2 : Nat) (Ax8 : Option Addr) (lx8 cx8 : Nat) (Ax11 : Option Addr) (lx11 cx11 : Nat) (Ax31 : Option Addr) (lx31 cx31 : Nat) (x32 x33 : Int) (Ax40 : Option Addr) (lx40 cx40 : Nat) (x41 : Int) (y42 : Int) (g : Fr) (N1 : Value → HH → Prop) (H0 : HH) (K : Value → HH → Prop) : Prop :=
 if (decide ((y42 : Int) < x41)) = true then
 ∃ a18 : Addr, AQ Try.prog (Instr.indexAt 32 (.slice Ax40 lx40 cx40) (.int .i64 y42)) (.pointer ((some a18))) ∧
 ∃ n19 : Int, QRun Try.prog (Instr.loadAt 22 (.pointer ((some a18)))) H0 (.int .u64 n19) ∧
 ∃ a20 : Addr, AQ Try.prog (Instr.indexAt 23 (.slice Ax2 lx2 cx2) (.int .i64 y42)) (.pointer ((some a20))) ∧
 ∃ (A21 : Option Addr) (l21 c21 : Nat), QRun Try.prog (Instr.loadAt 32 (.pointer ((some a20)))) H0 (.slice A21 l21 c21) ∧
 matrix_Mul.P2 base N0 N1 [(.int .u64 x0), (.slice Ax2 lx2 cx2), (.slice Ax8 lx8 cx8), (.slice Ax11 lx11 cx11), (.int .u64 n19), (.slice Ax31 lx31 cx31), (.int .i64 x32), (.int .i64 x33), (.slice Ax40 lx40 cx40), (.int .i64 x41), (.int .i64 y42), (.slice A21 l21 c21), (.int .i64 (((l21 : Nat) : Int))), (.int .i64 0)] H0 K
 else
 HRun Try.prog base (Instr.buildSlice 23 1 #[(0, (.slice Ax11 lx11 cx11))]) H0 fun v22 H23 =>
 ∃ (A24 : Option Addr) (l24 c24 : Nat), v22 = (.slice A24 l24 c24) ∧ HRun Try.prog base (Builtin.append_ #[23, 23] 23 #[(.slice Ax8 lx8 cx8), (.slice A24 l24 c24)]) H23 fun v25 H26 =>
 ∃ (A27 : Option Addr) (l27 c27 : Nat), v25 = (.slice A27 l27 c27) ∧ N0 (.slice A27 l27 c27) (.int .i64 ((IntKind.i64.wrap (x33 + 1)))) H26
theorem matrix_Mul.loop1 {base : Nat} {N0 : Value → Value → HH → Prop} {x0 : Int} {Ax2 : Option Addr} {lx2 cx2 : Nat} {Ax8 : Option Addr} {lx8 cx8 : Nat} {Ax11 : Option Addr} {lx11 cx11 : Nat} {Ax31 : Option Addr} {lx31 cx31 : Nat} {x32 x33 : Int} {Ax40 : Option Addr} {lx40 cx40 : Nat} {x41 y42_i : Int} {H0 : HH} {K : Value → HH → Prop} (J : Nat → Int → HH → Prop) (n : Nat) (h0 : J n y42_i H0)
    (hs : ∀ (n : Nat) (y42 : Int) (g : Fr) (H0 : HH), J n y42 H0 → matrix_Mul.B1 base N0 x0 Ax2 lx2 cx2 Ax8 lx8 cx8 Ax11 lx11 cx11 Ax31 lx31 cx31 x32 x33 Ax40 lx40 cx40 x41 y42 g (fun w42 H => ∃ n', n' < n ∧ ∃ (y42' : Int), w42 = (.int .i64 y42') ∧ J n' y42' H) H0 K) : matrix_Mul.P1 base N0 [(.int .u64 x0), (.slice Ax2 lx2 cx2), (.slice Ax8 lx8 cx8), (.slice Ax11 lx11 cx11), (.slice Ax31 lx31 cx31), (.int .i64 x32), (.int .i64 x33), (.slice Ax40 lx40 cx40), (.int .i64 x41), (.int .i64 y42_i)] H0 K := by
  refine loop_rule (ann := matrix_Mul.ann) (body := codeAt [.r, .r, .r, .l, .r, .b, .lp, .r, .r, .l, .b, .r, .r, .l, .r, .b, .lp] (bodyOf Try.f25)) mix (by kernel_rfl) 4722366478471598764032 (by kernel_rfl) [0, 2, 8, 11, 31, 32, 33, 40, 41] [(.int .u64 x0), (.slice Ax2 lx2 cx2), (.slice Ax8 lx8 cx8), (.slice Ax11 lx11 cx11), (.slice Ax31 lx31 cx31), (.int .i64 x32), (.int .i64 x33), (.slice Ax40 lx40 cx40), (.int .i64 x41)] (by kernel_rfl) (fun fr ⟨e0, e2, e8, e11, e31, e32, e33, e40, e41, e42, _⟩ => ⟨e0, e2, e8, e11, e31, e32, e33, e40, e41, trivial⟩) (fun n g H => ∃ (y42 : Int), g 42 = (.int .i64 y42) ∧ J n y42 H) n (fun fr ⟨e0, e2, e8, e11, e31, e32, e33, e40, e41, e42, _⟩ => ⟨y42_i, e42, h0⟩) ?_
  rintro n g H0 ⟨e0, e2, e8, e11, e31, e32, e33, e40, e41, _⟩ ⟨y42, e42, hJ⟩
  rw [← ov_eq (g := g) [(0, (.int .u64 x0)), (2, (.slice Ax2 lx2 cx2)), (8, (.slice Ax8 lx8 cx8)), (11, (.slice Ax11 lx11 cx11)), (31, (.slice Ax31 lx31 cx31)), (32, (.int .i64 x32)), (33, (.int .i64 x33)), (40, (.slice Ax40 lx40 cx40)), (41, (.int .i64 x41)), (42, (.int .i64 y42))] (by simp only [List.mem_cons, List.not_mem_nil, or_false, forall_eq_or_imp, forall_eq, false_implies, implies_true]; exact ⟨e0, e2, e8, e11, e31, e32, e33, e40, e41, e42⟩)]
  have key : ∀ NN : Value → HH → Prop, matrix_Mul.B1 base N0 x0 Ax2 lx2 cx2 Ax8 lx8 cx8 Ax11 lx11 cx11 Ax31 lx31 cx31 x32 x33 Ax40 lx40 cx40 x41 y42 g NN H0 K = wpC Try.prog base 78 matrix_Mul.ann (codeAt [.r, .r, .r, .l, .r, .b, .lp, .r, .r, .l, .b, .r, .r, .l, .r, .b, .lp] (bodyOf Try.f25)) (ov g [(0, (.int .u64 x0)), (2, (.slice Ax2 lx2 cx2)), (8, (.slice Ax8 lx8 cx8)), (11, (.slice Ax11 lx11 cx11)), (31, (.slice Ax31 lx31 cx31)), (32, (.int .i64 x32)), (33, (.int .i64 x33)), (40, (.slice Ax40 lx40 cx40)), (41, (.int .i64 x41)), (42, (.int .i64 y42))]) H0 (thenQ (fun fr H => NN (fr 42) H) (qAt Try.prog base 78 matrix_Mul.ann [.r, .r, .r, .l, .r, .b, .lp, .r, .r, .l, .b, .r, .r, .l, .r, .b] [fun fr H => N0 (fr 8) (fr 33) H] (bodyOf Try.f25) (retQ Try.prog 78 Try.f25 K))) := fun NN => by kernel_rfl
  refine cast ?_ (hs n y42 g H0 hJ)
  refine (key (fun w42 H => ∃ n', n' < n ∧ ∃ (y42' : Int), w42 = (.int .i64 y42') ∧ J n' y42' H)).trans ?_
  kernel_rfl
def matrix_Mul.B2 (base : Nat) (N0 : Value → Value → HH → Prop) (N1 : Value → HH → Prop) (x0 : Int) (Ax2 : Option Addr) (lx2 cx2 : Nat) (Ax8 : Option Addr) (lx8 cx8 : Nat) (Ax11 : Option Addr) (lx11 cx11 : Nat) (x13 : Int) (Ax31 : Option Addr) (lx31 cx31 : Nat) (x32 x33 : Int) (Ax40 : Option Addr) (lx40 cx40 : Nat) (x41 x42 : Int) (Ax50 : Option Addr) (lx50 cx50 : Nat) (x51 : Int) (y52 : Int) (g : Fr) (N2 : Value → HH → Prop) (H0 : HH) (K : Value → HH → Prop) : Prop :=
 if (decide ((y52 : Int) < x51)) = true then
 ∃ a28 : Addr, AQ Try.prog (Instr.indexAt 32 (.slice Ax50 lx50 cx50) (.int .i64 y52)) (.pointer ((some a28))) ∧
 ∃ n29 : Int, QRun Try.prog (Instr.loadAt 22 (.pointer ((some a28)))) H0 (.int .u64 n29) ∧
 ∃ a30 : Addr, AQ Try.prog (Instr.indexAt 32 (.slice Ax11 lx11 cx11) (.int .i64 y52)) (.pointer ((some a30))) ∧
 ∃ n31 : Int, QRun Try.prog (Instr.loadAt 22 (.pointer ((some a30)))) H0 (.int .u64 n31) ∧
 ∃ n32 : Int, HCall Try.prog base 29 #[(.int .u64 x0), (.int .u64 x13), (.int .u64 n29)] H0 (fun v_ H_ => v_ = (.int .u64 n32) ∧ H_ = H0) ∧
 ∃ n33 : Int, HCall Try.prog base 57 #[(.int .u64 x0), (.int .u64 n31), (.int .u64 n32)] H0 (fun v_ H_ => v_ = (.int .u64 n33) ∧ H_ = H0) ∧
 ∃ a34 : Addr, AQ Try.prog (Instr.indexAt 32 (.slice Ax11 lx11 cx11) (.int .i64 y52)) (.pointer ((some a34))) ∧
 HRun Try.prog base (Instr.storeAt 22 (.pointer ((some a34))) (.int .u64 n33)) H0 fun _ H35 =>
 N2 (.int .i64 ((IntKind.i64.wrap (y52 + 1)))) H35
 else
 N1 (.int .i64 ((IntKind.i64.wrap (x42 + 1)))) H0
theorem matrix_Mul.loop2 {base : Nat} {N0 : Value → Value → HH → Prop} {N1 : Value → HH → Prop} {x0 : Int} {Ax2 : Option Addr} {lx2 cx2 : Nat} {Ax8 : Option Addr} {lx8 cx8 : Nat} {Ax11 : Option Addr} {lx11 cx11 : Nat} {x13 : Int} {Ax31 : Option Addr} {lx31 cx31 : Nat} {x32 x33 : Int} {Ax40 : Option Addr} {lx40 cx40 : Nat} {x41 x42 : Int} {Ax50 : Option Addr} {lx50 cx50 : Nat} {x51 y52_i : Int} {H0 : HH} {K : Value → HH → Prop} (J : Nat → Int → HH → Prop) (n : Nat) (h0 : J n y52_i H0)
    (hs : ∀ (n : Nat) (y52 : Int) (g : Fr) (H0 : HH), J n y52 H0 → matrix_Mul.B2 base N0 N1 x0 Ax2 lx2 cx2 Ax8 lx8 cx8 Ax11 lx11 cx11 x13 Ax31 lx31 cx31 x32 x33 Ax40 lx40 cx40 x41 x42 Ax50 lx50 cx50 x51 y52 g (fun w52 H => ∃ n', n' < n ∧ ∃ (y52' : Int), w52 = (.int .i64 y52') ∧ J n' y52' H) H0 K) : matrix_Mul.P2 base N0 N1 [(.int .u64 x0), (.slice Ax2 lx2 cx2), (.slice Ax8 lx8 cx8), (.slice Ax11 lx11 cx11), (.int .u64 x13), (.slice Ax31 lx31 cx31), (.int .i64 x32), (.int .i64 x33), (.slice Ax40 lx40 cx40), (.int .i64 x41), (.int .i64 x42), (.slice Ax50 lx50 cx50), (.int .i64 x51), (.int .i64 y52_i)] H0 K := by
  refine loop_rule (ann := matrix_Mul.ann) (body := codeAt [.r, .r, .r, .l, .r, .b, .lp, .r, .r, .l, .b, .r, .r, .l, .r, .b, .lp, .r, .r, .l, .b, .r, .r, .b, .lp] (bodyOf Try.f25)) mix (by kernel_rfl) 2361178737835195285504 (by kernel_rfl) [0, 2, 8, 11, 13, 31, 32, 33, 40, 41, 42, 50, 51] [(.int .u64 x0), (.slice Ax2 lx2 cx2), (.slice Ax8 lx8 cx8), (.slice Ax11 lx11 cx11), (.int .u64 x13), (.slice Ax31 lx31 cx31), (.int .i64 x32), (.int .i64 x33), (.slice Ax40 lx40 cx40), (.int .i64 x41), (.int .i64 x42), (.slice Ax50 lx50 cx50), (.int .i64 x51)] (by kernel_rfl) (fun fr ⟨e0, e2, e8, e11, e13, e31, e32, e33, e40, e41, e42, e50, e51, e52, _⟩ => ⟨e0, e2, e8, e11, e13, e31, e32, e33, e40, e41, e42, e50, e51, trivial⟩) (fun n g H => ∃ (y52 : Int), g 52 = (.int .i64 y52) ∧ J n y52 H) n (fun fr ⟨e0, e2, e8, e11, e13, e31, e32, e33, e40, e41, e42, e50, e51, e52, _⟩ => ⟨y52_i, e52, h0⟩) ?_
  rintro n g H0 ⟨e0, e2, e8, e11, e13, e31, e32, e33, e40, e41, e42, e50, e51, _⟩ ⟨y52, e52, hJ⟩
  rw [← ov_eq (g := g) [(0, (.int .u64 x0)), (2, (.slice Ax2 lx2 cx2)), (8, (.slice Ax8 lx8 cx8)), (11, (.slice Ax11 lx11 cx11)), (13, (.int .u64 x13)), (31, (.slice Ax31 lx31 cx31)), (32, (.int .i64 x32)), (33, (.int .i64 x33)), (40, (.slice Ax40 lx40 cx40)), (41, (.int .i64 x41)), (42, (.int .i64 x42)), (50, (.slice Ax50 lx50 cx50)), (51, (.int .i64 x51)), (52, (.int .i64 y52))] (by simp only [List.mem_cons, List.not_mem_nil, or_false, forall_eq_or_imp, forall_eq, false_implies, implies_true]; exact ⟨e0, e2, e8, e11, e13, e31, e32, e33, e40, e41, e42, e50, e51, e52⟩)]
  have key : ∀ NN : Value → HH → Prop, matrix_Mul.B2 base N0 N1 x0 Ax2 lx2 cx2 Ax8 lx8 cx8 Ax11 lx11 cx11 x13 Ax31 lx31 cx31 x32 x33 Ax40 lx40 cx40 x41 x42 Ax50 lx50 cx50 x51 y52 g NN H0 K = wpC Try.prog base 78 matrix_Mul.ann (codeAt [.r, .r, .r, .l, .r, .b, .lp, .r, .r, .l, .b, .r, .r, .l, .r, .b, .lp, .r, .r, .l, .b, .r, .r, .b, .lp] (bodyOf Try.f25)) (ov g [(0, (.int .u64 x0)), (2, (.slice Ax2 lx2 cx2)), (8, (.slice Ax8 lx8 cx8)), (11, (.slice Ax11 lx11 cx11)), (13, (.int .u64 x13)), (31, (.slice Ax31 lx31 cx31)), (32, (.int .i64 x32)), (33, (.int .i64 x33)), (40, (.slice Ax40 lx40 cx40)), (41, (.int .i64 x41)), (42, (.int .i64 x42)), (50, (.slice Ax50 lx50 cx50)), (51, (.int .i64 x51)), (52, (.int .i64 y52))]) H0 (thenQ (fun fr H => NN (fr 52) H) (qAt Try.prog base 78 matrix_Mul.ann [.r, .r, .r, .l, .r, .b, .lp, .r, .r, .l, .b, .r, .r, .l, .r, .b, .lp, .r, .r, .l, .b, .r, .r, .b] [fun fr H => N0 (fr 8) (fr 33) H, fun fr H => N1 (fr 42) H] (bodyOf Try.f25) (retQ Try.prog 78 Try.f25 K))) := fun NN => by kernel_rfl
  refine cast ?_ (hs n y52 g H0 hJ)
  refine (key (fun w52 H => ∃ n', n' < n ∧ ∃ (y52' : Int), w52 = (.int .i64 y52') ∧ J n' y52' H)).trans ?_
  kernel_rfl
def matrix_Apply.ann : Ann := ⟨fun k => [], fun k => false, fun k => bif Nat.beq k 5 then [0, 2, 8, 21, 22, 23] else []⟩
def matrix_Rank.ann : Ann := ⟨fun k => [], fun k => false, fun k => []⟩
def matrix_Rank.sh (base : Nat) (x0 : Int) (Ax1 : Option Addr) (lx1 cx1 : Nat) (H0 : HH) (K : Value → HH → Prop) : Prop :=
 HCall Try.prog base 49 #[(.slice Ax1 lx1 cx1)] H0 fun v1 H2 =>
 ∃ b3 : Bool, v1 = (.bool b3) ∧ if (!b3) = true then
 K (.tuple #[(.int .i64 0), (.int .i64 1)]) H2
 else
 HCall Try.prog base 51 #[(.slice Ax1 lx1 cx1)] H2 fun v4 H5 =>
 ∃ n6 : Int, v4 = (.int .i64 n6) ∧ HCall Try.prog base 50 #[(.int .u64 x0), (.slice Ax1 lx1 cx1), (.int .i64 n6)] H5 fun v7 H8 =>
 ∃ a9 : Addr, v7 = (.pointer ((some a9))) ∧ ∃ a10 : Addr, AQ Try.prog (Instr.fieldAt 76 (.pointer ((some a9))) 2) (.pointer ((some a10))) ∧
 ∃ (A11 : Option Addr) (l11 c11 : Nat), QRun Try.prog (Instr.loadAt 57 (.pointer ((some a10)))) H8 (.slice A11 l11 c11) ∧
 K (.tuple #[(.int .i64 (((l11 : Nat) : Int))), (.int .i64 0)]) H8
theorem matrix_Rank.spec {base : Nat} {x0 : Int} {Ax1 : Option Addr} {lx1 cx1 : Nat} {H0 : HH} {K : Value → HH → Prop} (h : matrix_Rank.sh base x0 Ax1 lx1 cx1 H0 K) : HCall Try.prog base 16 #[(.int .u64 x0), (.slice Ax1 lx1 cx1)] H0 K := spec_of_wpC (n := 18) (ann := matrix_Rank.ann) mix Try.func16 (by kernel_rfl) (cast (show matrix_Rank.sh base x0 Ax1 lx1 cx1 H0 K = wpC Try.prog base 18 matrix_Rank.ann (bodyOf Try.f16) (ofL [(.int .u64 x0), (.slice Ax1 lx1 cx1)]) H0 (retQ Try.prog 18 Try.f16 K) by kernel_rfl) h)
def matrix_Det.ann : Ann := ⟨fun k => [], fun k => false, fun k => []⟩
def matrix_Det.sh (base : Nat) (x0 : Int) (Ax1 : Option Addr) (lx1 cx1 : Nat) (H0 : HH) (K : Value → HH → Prop) : Prop :=
 HCall Try.prog base 53 #[(.slice Ax1 lx1 cx1)] H0 fun v1 H2 =>
 ∃ b3 : Bool, v1 = (.bool b3) ∧ if (!b3) = true then
 K (.tuple #[(.int .u64 0), (.int .i64 1)]) H2
 else
 HCall Try.prog base 50 #[(.int .u64 x0), (.slice Ax1 lx1 cx1), (.int .i64 (((lx1 : Nat) : Int)))] H2 fun v4 H5 =>
 ∃ a6 : Addr, v4 = (.pointer ((some a6))) ∧ ∃ a7 : Addr, AQ Try.prog (Instr.fieldAt 76 (.pointer ((some a6))) 2) (.pointer ((some a7))) ∧
 ∃ (A8 : Option Addr) (l8 c8 : Nat), QRun Try.prog (Instr.loadAt 57 (.pointer ((some a7)))) H5 (.slice A8 l8 c8) ∧
 if (decide ((((l8 : Nat) : Int) : Int) < (((lx1 : Nat) : Int)))) = true then
 K (.tuple #[(.int .u64 0), (.int .i64 0)]) H5
 else
 ∃ a9 : Addr, AQ Try.prog (Instr.fieldAt 76 (.pointer ((some a6))) 3) (.pointer ((some a9))) ∧
 ∃ n10 : Int, QRun Try.prog (Instr.loadAt 22 (.pointer ((some a9)))) H5 (.int .u64 n10) ∧
 K (.tuple #[(.int .u64 n10), (.int .i64 0)]) H5
theorem matrix_Det.spec {base : Nat} {x0 : Int} {Ax1 : Option Addr} {lx1 cx1 : Nat} {H0 : HH} {K : Value → HH → Prop} (h : matrix_Det.sh base x0 Ax1 lx1 cx1 H0 K) : HCall Try.prog base 18 #[(.int .u64 x0), (.slice Ax1 lx1 cx1)] H0 K := spec_of_wpC (n := 27) (ann := matrix_Det.ann) mix Try.func18 (by kernel_rfl) (cast (show matrix_Det.sh base x0 Ax1 lx1 cx1 H0 K = wpC Try.prog base 27 matrix_Det.ann (bodyOf Try.f18) (ofL [(.int .u64 x0), (.slice Ax1 lx1 cx1)]) H0 (retQ Try.prog 27 Try.f18 K) by kernel_rfl) h)
def matrix_Solve.ann : Ann := ⟨fun k => bif Nat.beq k 8 then [2, 7, 8, 9, 10] else bif Nat.beq k 11 then [] else [], fun k => false, fun k => bif Nat.beq k 6 then [0, 2, 8, 9, 30, 31, 32] else bif Nat.beq k 12 then [8, 12, 62, 63, 64] else bif Nat.beq k 19 then [8, 12, 15, 79, 80, 81] else []⟩
def matrix_Solve.P0 (base : Nat) (l : List Value) (H0 : HH) (K : Value → HH → Prop) : Prop := HCodeL Try.prog base 101 (codeAt [.r, .r, .r, .r, .l, .r, .b] (bodyOf Try.f21)) [0, 2, 8, 9, 30, 31, 32] l H0 (qAt Try.prog base 101 matrix_Solve.ann [.r, .r, .r, .r, .l, .r, .b] [] (bodyOf Try.f21) (retQ Try.prog 101 Try.f21 K))
def matrix_Solve.P1 (base : Nat) (l : List Value) (H0 : HH) (K : Value → HH → Prop) : Prop := HCodeL Try.prog base 101 (codeAt [.r, .r, .r, .r, .r, .r, .l, .r, .b] (bodyOf Try.f21)) [8, 12, 62, 63, 64] l H0 (qAt Try.prog base 101 matrix_Solve.ann [.r, .r, .r, .r, .r, .r, .l, .r, .b] [] (bodyOf Try.f21) (retQ Try.prog 101 Try.f21 K))
def matrix_Solve.P2 (base : Nat) (l : List Value) (H0 : HH) (K : Value → HH → Prop) : Prop := HCodeL Try.prog base 101 (codeAt [.r, .r, .r, .r, .r, .r, .r, .r, .l, .r, .b] (bodyOf Try.f21)) [8, 12, 15, 79, 80, 81] l H0 (qAt Try.prog base 101 matrix_Solve.ann [.r, .r, .r, .r, .r, .r, .r, .r, .l, .r, .b] [] (bodyOf Try.f21) (retQ Try.prog 101 Try.f21 K))
def matrix_Solve.sh (base : Nat) (x0 : Int) (Ax1 : Option Addr) (lx1 cx1 : Nat) (Ax2 : Option Addr) (lx2 cx2 : Nat) (H0 : HH) (K : Value → HH → Prop) : Prop :=
 HCall Try.prog base 49 #[(.slice Ax1 lx1 cx1)] H0 fun v1 H2 =>
 ∃ b3 : Bool, v1 = (.bool b3) ∧ if (!b3) = false then
 if ((((lx1 : Nat) : Int) : Int) != (((lx2 : Nat) : Int))) = true then
 K (.tuple #[(.slice none 0 0), (.int .i64 1)]) H2
 else
 HCall Try.prog base 51 #[(.slice Ax1 lx1 cx1)] H2 fun v4 H5 =>
 ∃ n6 : Int, v4 = (.int .i64 n6) ∧ matrix_Solve.P0 base [(.int .u64 x0), (.slice Ax2 lx2 cx2), (.int .i64 n6), (.slice none 0 0), (.slice Ax1 lx1 cx1), (.int .i64 (((lx1 : Nat) : Int))), (.int .i64 0)] H5 K
 else
 K (.tuple #[(.slice none 0 0), (.int .i64 1)]) H2
theorem matrix_Solve.spec {base : Nat} {x0 : Int} {Ax1 : Option Addr} {lx1 cx1 : Nat} {Ax2 : Option Addr} {lx2 cx2 : Nat} {H0 : HH} {K : Value → HH → Prop} (h : matrix_Solve.sh base x0 Ax1 lx1 cx1 Ax2 lx2 cx2 H0 K) : HCall Try.prog base 21 #[(.int .u64 x0), (.slice Ax1 lx1 cx1), (.slice Ax2 lx2 cx2)] H0 K := spec_of_wpC (n := 101) (ann := matrix_Solve.ann) mix Try.func21 (by kernel_rfl) (cast (show matrix_Solve.sh base x0 Ax1 lx1 cx1 Ax2 lx2 cx2 H0 K = wpC Try.prog base 101 matrix_Solve.ann (bodyOf Try.f21) (ofL [(.int .u64 x0), (.slice Ax1 lx1 cx1), (.slice Ax2 lx2 cx2)]) H0 (retQ Try.prog 101 Try.f21 K) by kernel_rfl) h)
def matrix_Solve.B0 (base : Nat) (x0 : Int) (Ax2 : Option Addr) (lx2 cx2 : Nat) (x8 : Int) (Ax30 : Option Addr) (lx30 cx30 : Nat) (x31 : Int) (Ay9 : Option Addr) (ly9 cy9 : Nat) (y32 : Int) (g : Fr) (N0 : Value → Value → HH → Prop) (H0 : HH) (K : Value → HH → Prop) : Prop :=
 if (decide ((y32 : Int) < x31)) = true then
 ∃ a7 : Addr, AQ Try.prog (Instr.indexAt 23 (.slice Ax30 lx30 cx30) (.int .i64 y32)) (.pointer ((some a7))) ∧
 ∃ (A8 : Option Addr) (l8 c8 : Nat), QRun Try.prog (Instr.loadAt 32 (.pointer ((some a7)))) H0 (.slice A8 l8 c8) ∧
 ∃ a9 : Addr, AQ Try.prog (Instr.indexAt 32 (.slice Ax2 lx2 cx2) (.int .i64 y32)) (.pointer ((some a9))) ∧
 ∃ n10 : Int, QRun Try.prog (Instr.loadAt 22 (.pointer ((some a9)))) H0 (.int .u64 n10) ∧
 (HCall Try.prog base 55 #[(.slice A8 l8 c8)] H0 fun v11 H12 =>
 ∃ (A13 : Option Addr) (l13 c13 : Nat), v11 = (.slice A13 l13 c13) ∧ QRun Try.prog (Instr.loadAt 22 (.pointer ((some a9)))) H12 (.int .u64 n10) ∧
 HRun Try.prog base (Instr.buildSlice 32 1 #[(0, (.int .u64 n10))]) H12 fun v14 H15 =>
 ∃ (A16 : Option Addr) (l16 c16 : Nat), v14 = (.slice A16 l16 c16) ∧ HRun Try.prog base (Builtin.append_ #[32, 32] 32 #[(.slice A13 l13 c13), (.slice A16 l16 c16)]) H15 fun v17 H18 =>
 ∃ (A19 : Option Addr) (l19 c19 : Nat), v17 = (.slice A19 l19 c19) ∧ HRun Try.prog base (Instr.buildSlice 23 1 #[(0, (.slice A19 l19 c19))]) H18 fun v20 H21 =>
 ∃ (A22 : Option Addr) (l22 c22 : Nat), v20 = (.slice A22 l22 c22) ∧ HRun Try.prog base (Builtin.append_ #[23, 23] 23 #[(.slice Ay9 ly9 cy9), (.slice A22 l22 c22)]) H21 fun v23 H24 =>
 ∃ (A25 : Option Addr) (l25 c25 : Nat), v23 = (.slice A25 l25 c25) ∧ N0 (.slice A25 l25 c25) (.int .i64 ((IntKind.i64.wrap (y32 + 1)))) H24) ∧
 (HRun Try.prog base (Instr.buildSlice 32 1 #[(0, (.int .u64 n10))]) H0 fun v26 H27 =>
 ∃ (A28 : Option Addr) (l28 c28 : Nat), v26 = (.slice A28 l28 c28) ∧ HCall Try.prog base 55 #[(.slice A8 l8 c8)] H27 fun v29 H30 =>
 ∃ (A31 : Option Addr) (l31 c31 : Nat), v29 = (.slice A31 l31 c31) ∧ HRun Try.prog base (Builtin.append_ #[32, 32] 32 #[(.slice A31 l31 c31), (.slice A28 l28 c28)]) H30 fun v32 H33 =>
 ∃ (A34 : Option Addr) (l34 c34 : Nat), v32 = (.slice A34 l34 c34) ∧ HRun Try.prog base (Instr.buildSlice 23 1 #[(0, (.slice A34 l34 c34))]) H33 fun v35 H36 =>
 ∃ (A37 : Option Addr) (l37 c37 : Nat), v35 = (.slice A37 l37 c37) ∧ HRun Try.prog base (Builtin.append_ #[23, 23] 23 #[(.slice Ay9 ly9 cy9), (.slice A37 l37 c37)]) H36 fun v38 H39 =>
 ∃ (A40 : Option Addr) (l40 c40 : Nat), v38 = (.slice A40 l40 c40) ∧ N0 (.slice A40 l40 c40) (.int .i64 ((IntKind.i64.wrap (y32 + 1)))) H39)
 else
 HCall Try.prog base 50 #[(.int .u64 x0), (.slice Ay9 ly9 cy9), (.int .i64 x8)] H0 fun v41 H42 =>
 ∃ a43 : Addr, v41 = (.pointer ((some a43))) ∧ ∃ a44 : Addr, AQ Try.prog (Instr.fieldAt 76 (.pointer ((some a43))) 1) (.pointer ((some a44))) ∧
 ∃ (A45 : Option Addr) (l45 c45 : Nat), QRun Try.prog (Instr.loadAt 23 (.pointer ((some a44)))) H42 (.slice A45 l45 c45) ∧
 ∃ a46 : Addr, AQ Try.prog (Instr.fieldAt 76 (.pointer ((some a43))) 2) (.pointer ((some a46))) ∧
 ∃ (A47 : Option Addr) (l47 c47 : Nat), QRun Try.prog (Instr.loadAt 57 (.pointer ((some a46)))) H42 (.slice A47 l47 c47) ∧
 ∃ (A48 : Option Addr) (l48 c48 : Nat), AQ Try.prog (Instr.sliceAt 23 (.slice A45 l45 c45) (some (.int .i64 (((l47 : Nat) : Int)))) none none) (.slice A48 l48 c48) ∧
 matrix_Solve.P1 base [(.int .i64 x8), (.pointer ((some a43))), (.slice A48 l48 c48), (.int .i64 (((l48 : Nat) : Int))), (.int .i64 0)] H42 K
theorem matrix_Solve.loop0 {base : Nat} {x0 : Int} {Ax2 : Option Addr} {lx2 cx2 : Nat} {x8 : Int} {Ax30 : Option Addr} {lx30 cx30 : Nat} {x31 : Int} {Ay9_i : Option Addr} {ly9_i cy9_i : Nat} {y32_i : Int} {H0 : HH} {K : Value → HH → Prop} (J : Nat → Option Addr → Nat → Nat → Int → HH → Prop) (n : Nat) (h0 : J n Ay9_i ly9_i cy9_i y32_i H0)
    (hs : ∀ (n : Nat) (Ay9 : Option Addr) (ly9 cy9 : Nat) (y32 : Int) (g : Fr) (H0 : HH), J n Ay9 ly9 cy9 y32 H0 → matrix_Solve.B0 base x0 Ax2 lx2 cx2 x8 Ax30 lx30 cx30 x31 Ay9 ly9 cy9 y32 g (fun w9 w32 H => ∃ n', n' < n ∧ ∃ (Ay9' : Option Addr) (ly9' cy9' : Nat) (y32' : Int), w9 = (.slice Ay9' ly9' cy9') ∧ w32 = (.int .i64 y32') ∧ J n' Ay9' ly9' cy9' y32' H) H0 K) : matrix_Solve.P0 base [(.int .u64 x0), (.slice Ax2 lx2 cx2), (.int .i64 x8), (.slice Ay9_i ly9_i cy9_i), (.slice Ax30 lx30 cx30), (.int .i64 x31), (.int .i64 y32_i)] H0 K := by
  refine loop_rule (ann := matrix_Solve.ann) (body := codeAt [.r, .r, .r, .r, .l, .r, .b, .lp] (bodyOf Try.f21)) mix (by kernel_rfl) 562945658457600 (by kernel_rfl) [0, 2, 8, 30, 31] [(.int .u64 x0), (.slice Ax2 lx2 cx2), (.int .i64 x8), (.slice Ax30 lx30 cx30), (.int .i64 x31)] (by kernel_rfl) (fun fr ⟨e0, e2, e8, e9, e30, e31, e32, _⟩ => ⟨e0, e2, e8, e30, e31, trivial⟩) (fun n g H => ∃ (Ay9 : Option Addr) (ly9 cy9 : Nat) (y32 : Int), g 9 = (.slice Ay9 ly9 cy9) ∧ g 32 = (.int .i64 y32) ∧ J n Ay9 ly9 cy9 y32 H) n (fun fr ⟨e0, e2, e8, e9, e30, e31, e32, _⟩ => ⟨Ay9_i, ly9_i, cy9_i, y32_i, e9, e32, h0⟩) ?_
  rintro n g H0 ⟨e0, e2, e8, e30, e31, _⟩ ⟨Ay9, ly9, cy9, y32, e9, e32, hJ⟩
  rw [← ov_eq (g := g) [(0, (.int .u64 x0)), (2, (.slice Ax2 lx2 cx2)), (8, (.int .i64 x8)), (9, (.slice Ay9 ly9 cy9)), (30, (.slice Ax30 lx30 cx30)), (31, (.int .i64 x31)), (32, (.int .i64 y32))] (by simp only [List.mem_cons, List.not_mem_nil, or_false, forall_eq_or_imp, forall_eq, false_implies, implies_true]; exact ⟨e0, e2, e8, e9, e30, e31, e32⟩)]
  have key : ∀ NN : Value → Value → HH → Prop, matrix_Solve.B0 base x0 Ax2 lx2 cx2 x8 Ax30 lx30 cx30 x31 Ay9 ly9 cy9 y32 g NN H0 K = wpC Try.prog base 101 matrix_Solve.ann (codeAt [.r, .r, .r, .r, .l, .r, .b, .lp] (bodyOf Try.f21)) (ov g [(0, (.int .u64 x0)), (2, (.slice Ax2 lx2 cx2)), (8, (.int .i64 x8)), (9, (.slice Ay9 ly9 cy9)), (30, (.slice Ax30 lx30 cx30)), (31, (.int .i64 x31)), (32, (.int .i64 y32))]) H0 (thenQ (fun fr H => NN (fr 9) (fr 32) H) (qAt Try.prog base 101 matrix_Solve.ann [.r, .r, .r, .r, .l, .r, .b] [] (bodyOf Try.f21) (retQ Try.prog 101 Try.f21 K))) := fun NN => by kernel_rfl
  refine cast ?_ (hs n Ay9 ly9 cy9 y32 g H0 hJ)
  refine (key (fun w9 w32 H => ∃ n', n' < n ∧ ∃ (Ay9' : Option Addr) (ly9' cy9' : Nat) (y32' : Int), w9 = (.slice Ay9' ly9' cy9') ∧ w32 = (.int .i64 y32') ∧ J n' Ay9' ly9' cy9' y32' H)).trans ?_
  kernel_rfl
def matrix_Solve.B1 (base : Nat) (x8 : Int) (x12 : Addr) (Ax62 : Option Addr) (lx62 cx62 : Nat) (x63 : Int) (y64 : Int) (g : Fr) (N1 : Value → HH → Prop) (H0 : HH) (K : Value → HH → Prop) : Prop :=
 if (decide ((y64 : Int) < x63)) = true then
 ∃ a49 : Addr, AQ Try.prog (Instr.indexAt 23 (.slice Ax62 lx62 cx62) (.int .i64 y64)) (.pointer ((some a49))) ∧
 ∃ (A50 : Option Addr) (l50 c50 : Nat), QRun Try.prog (Instr.loadAt 32 (.pointer ((some a49)))) H0 (.slice A50 l50 c50) ∧
 ∃ a51 : Addr, AQ Try.prog (Instr.indexAt 32 (.slice A50 l50 c50) (.int .i64 x8)) (.pointer ((some a51))) ∧
 ∃ n52 : Int, QRun Try.prog (Instr.loadAt 22 (.pointer ((some a51)))) H0 (.int .u64 n52) ∧
 if ((n52 : Int) != 0) = true then
 K (.tuple #[(.slice none 0 0), (.int .i64 6)]) H0
 else
 N1 (.int .i64 ((IntKind.i64.wrap (y64 + 1)))) H0
 else
 HRun Try.prog base (Instr.makeSlice 32 (.int .i64 x8) (.int .i64 x8)) H0 fun v53 H54 =>
 ∃ (A55 : Option Addr) (l55 c55 : Nat), v53 = (.slice A55 l55 c55) ∧ ∃ a56 : Addr, AQ Try.prog (Instr.fieldAt 76 (.pointer ((some x12))) 2) (.pointer ((some a56))) ∧
 ∃ (A57 : Option Addr) (l57 c57 : Nat), QRun Try.prog (Instr.loadAt 57 (.pointer ((some a56)))) H54 (.slice A57 l57 c57) ∧
 matrix_Solve.P2 base [(.int .i64 x8), (.pointer ((some x12))), (.slice A55 l55 c55), (.slice A57 l57 c57), (.int .i64 (((l57 : Nat) : Int))), (.int .i64 0)] H54 K
theorem matrix_Solve.loop1 {base : Nat} {x8 : Int} {x12 : Addr} {Ax62 : Option Addr} {lx62 cx62 : Nat} {x63 y64_i : Int} {H0 : HH} {K : Value → HH → Prop} (J : Nat → Int → HH → Prop) (n : Nat) (h0 : J n y64_i H0)
    (hs : ∀ (n : Nat) (y64 : Int) (g : Fr) (H0 : HH), J n y64 H0 → matrix_Solve.B1 base x8 x12 Ax62 lx62 cx62 x63 y64 g (fun w64 H => ∃ n', n' < n ∧ ∃ (y64' : Int), w64 = (.int .i64 y64') ∧ J n' y64' H) H0 K) : matrix_Solve.P1 base [(.int .i64 x8), (.pointer ((some x12))), (.slice Ax62 lx62 cx62), (.int .i64 x63), (.int .i64 y64_i)] H0 K := by
  refine loop_rule (ann := matrix_Solve.ann) (body := codeAt [.r, .r, .r, .r, .r, .r, .l, .r, .b, .lp] (bodyOf Try.f21)) mix (by kernel_rfl) 18871019187404871319744 (by kernel_rfl) [8, 12, 62, 63] [(.int .i64 x8), (.pointer ((some x12))), (.slice Ax62 lx62 cx62), (.int .i64 x63)] (by kernel_rfl) (fun fr ⟨e8, e12, e62, e63, e64, _⟩ => ⟨e8, e12, e62, e63, trivial⟩) (fun n g H => ∃ (y64 : Int), g 64 = (.int .i64 y64) ∧ J n y64 H) n (fun fr ⟨e8, e12, e62, e63, e64, _⟩ => ⟨y64_i, e64, h0⟩) ?_
  rintro n g H0 ⟨e8, e12, e62, e63, _⟩ ⟨y64, e64, hJ⟩
  rw [← ov_eq (g := g) [(8, (.int .i64 x8)), (12, (.pointer ((some x12)))), (62, (.slice Ax62 lx62 cx62)), (63, (.int .i64 x63)), (64, (.int .i64 y64))] (by simp only [List.mem_cons, List.not_mem_nil, or_false, forall_eq_or_imp, forall_eq, false_implies, implies_true]; exact ⟨e8, e12, e62, e63, e64⟩)]
  have key : ∀ NN : Value → HH → Prop, matrix_Solve.B1 base x8 x12 Ax62 lx62 cx62 x63 y64 g NN H0 K = wpC Try.prog base 101 matrix_Solve.ann (codeAt [.r, .r, .r, .r, .r, .r, .l, .r, .b, .lp] (bodyOf Try.f21)) (ov g [(8, (.int .i64 x8)), (12, (.pointer ((some x12)))), (62, (.slice Ax62 lx62 cx62)), (63, (.int .i64 x63)), (64, (.int .i64 y64))]) H0 (thenQ (fun fr H => NN (fr 64) H) (qAt Try.prog base 101 matrix_Solve.ann [.r, .r, .r, .r, .r, .r, .l, .r, .b] [] (bodyOf Try.f21) (retQ Try.prog 101 Try.f21 K))) := fun NN => by kernel_rfl
  refine cast ?_ (hs n y64 g H0 hJ)
  refine (key (fun w64 H => ∃ n', n' < n ∧ ∃ (y64' : Int), w64 = (.int .i64 y64') ∧ J n' y64' H)).trans ?_
  kernel_rfl
def matrix_Solve.B2 (base : Nat) (x8 : Int) (x12 : Addr) (Ax15 : Option Addr) (lx15 cx15 : Nat) (Ax79 : Option Addr) (lx79 cx79 : Nat) (x80 : Int) (y81 : Int) (g : Fr) (N2 : Value → HH → Prop) (H0 : HH) (K : Value → HH → Prop) : Prop :=
 if (decide ((y81 : Int) < x80)) = true then
 ∃ a58 : Addr, AQ Try.prog (Instr.indexAt 57 (.slice Ax79 lx79 cx79) (.int .i64 y81)) (.pointer ((some a58))) ∧
 ∃ n59 : Int, QRun Try.prog (Instr.loadAt 3 (.pointer ((some a58)))) H0 (.int .i64 n59) ∧
 ∃ a60 : Addr, AQ Try.prog (Instr.fieldAt 76 (.pointer ((some x12))) 1) (.pointer ((some a60))) ∧
 ∃ (A61 : Option Addr) (l61 c61 : Nat), QRun Try.prog (Instr.loadAt 23 (.pointer ((some a60)))) H0 (.slice A61 l61 c61) ∧
 ∃ a62 : Addr, AQ Try.prog (Instr.indexAt 23 (.slice A61 l61 c61) (.int .i64 y81)) (.pointer ((some a62))) ∧
 ∃ (A63 : Option Addr) (l63 c63 : Nat), QRun Try.prog (Instr.loadAt 32 (.pointer ((some a62)))) H0 (.slice A63 l63 c63) ∧
 ∃ a64 : Addr, AQ Try.prog (Instr.indexAt 32 (.slice A63 l63 c63) (.int .i64 x8)) (.pointer ((some a64))) ∧
 ∃ n65 : Int, QRun Try.prog (Instr.loadAt 22 (.pointer ((some a64)))) H0 (.int .u64 n65) ∧
 ∃ a66 : Addr, AQ Try.prog (Instr.indexAt 32 (.slice Ax15 lx15 cx15) (.int .i64 n59)) (.pointer ((some a66))) ∧
 HRun Try.prog base (Instr.storeAt 22 (.pointer ((some a66))) (.int .u64 n65)) H0 fun _ H67 =>
 N2 (.int .i64 ((IntKind.i64.wrap (y81 + 1)))) H67
 else
 K (.tuple #[(.slice Ax15 lx15 cx15), (.int .i64 0)]) H0
theorem matrix_Solve.loop2 {base : Nat} {x8 : Int} {x12 : Addr} {Ax15 : Option Addr} {lx15 cx15 : Nat} {Ax79 : Option Addr} {lx79 cx79 : Nat} {x80 y81_i : Int} {H0 : HH} {K : Value → HH → Prop} (J : Nat → Int → HH → Prop) (n : Nat) (h0 : J n y81_i H0)
    (hs : ∀ (n : Nat) (y81 : Int) (g : Fr) (H0 : HH), J n y81 H0 → matrix_Solve.B2 base x8 x12 Ax15 lx15 cx15 Ax79 lx79 cx79 x80 y81 g (fun w81 H => ∃ n', n' < n ∧ ∃ (y81' : Int), w81 = (.int .i64 y81') ∧ J n' y81' H) H0 K) : matrix_Solve.P2 base [(.int .i64 x8), (.pointer ((some x12))), (.slice Ax15 lx15 cx15), (.slice Ax79 lx79 cx79), (.int .i64 x80), (.int .i64 y81_i)] H0 K := by
  refine loop_rule (ann := matrix_Solve.ann) (body := codeAt [.r, .r, .r, .r, .r, .r, .r, .r, .l, .r, .b, .lp] (bodyOf Try.f21)) mix (by kernel_rfl) 1267648182376590172238353989632 (by kernel_rfl) [8, 12, 15, 79, 80] [(.int .i64 x8), (.pointer ((some x12))), (.slice Ax15 lx15 cx15), (.slice Ax79 lx79 cx79), (.int .i64 x80)] (by kernel_rfl) (fun fr ⟨e8, e12, e15, e79, e80, e81, _⟩ => ⟨e8, e12, e15, e79, e80, trivial⟩) (fun n g H => ∃ (y81 : Int), g 81 = (.int .i64 y81) ∧ J n y81 H) n (fun fr ⟨e8, e12, e15, e79, e80, e81, _⟩ => ⟨y81_i, e81, h0⟩) ?_
  rintro n g H0 ⟨e8, e12, e15, e79, e80, _⟩ ⟨y81, e81, hJ⟩
  rw [← ov_eq (g := g) [(8, (.int .i64 x8)), (12, (.pointer ((some x12)))), (15, (.slice Ax15 lx15 cx15)), (79, (.slice Ax79 lx79 cx79)), (80, (.int .i64 x80)), (81, (.int .i64 y81))] (by simp only [List.mem_cons, List.not_mem_nil, or_false, forall_eq_or_imp, forall_eq, false_implies, implies_true]; exact ⟨e8, e12, e15, e79, e80, e81⟩)]
  have key : ∀ NN : Value → HH → Prop, matrix_Solve.B2 base x8 x12 Ax15 lx15 cx15 Ax79 lx79 cx79 x80 y81 g NN H0 K = wpC Try.prog base 101 matrix_Solve.ann (codeAt [.r, .r, .r, .r, .r, .r, .r, .r, .l, .r, .b, .lp] (bodyOf Try.f21)) (ov g [(8, (.int .i64 x8)), (12, (.pointer ((some x12)))), (15, (.slice Ax15 lx15 cx15)), (79, (.slice Ax79 lx79 cx79)), (80, (.int .i64 x80)), (81, (.int .i64 y81))]) H0 (thenQ (fun fr H => NN (fr 81) H) (qAt Try.prog base 101 matrix_Solve.ann [.r, .r, .r, .r, .r, .r, .r, .r, .l, .r, .b] [] (bodyOf Try.f21) (retQ Try.prog 101 Try.f21 K))) := fun NN => by kernel_rfl
  refine cast ?_ (hs n y81 g H0 hJ)
  refine (key (fun w81 H => ∃ n', n' < n ∧ ∃ (y81' : Int), w81 = (.int .i64 y81') ∧ J n' y81' H)).trans ?_
  kernel_rfl
def matrix_Inverse.ann : Ann := ⟨fun k => [], fun k => false, fun k => bif Nat.beq k 6 then [0, 6, 7, 20, 21, 22] else bif Nat.beq k 17 then [6, 12, 54, 55, 56] else []⟩
def matrix_Inverse.P0 (base : Nat) (l : List Value) (H0 : HH) (K : Value → HH → Prop) : Prop := HCodeL Try.prog base 68 (codeAt [.r, .r, .r, .r, .l, .r, .b] (bodyOf Try.f24)) [0, 6, 7, 20, 21, 22] l H0 (qAt Try.prog base 68 matrix_Inverse.ann [.r, .r, .r, .r, .l, .r, .b] [] (bodyOf Try.f24) (retQ Try.prog 68 Try.f24 K))
def matrix_Inverse.P1 (base : Nat) (l : List Value) (H0 : HH) (K : Value → HH → Prop) : Prop := HCodeL Try.prog base 68 (codeAt [.r, .r, .r, .r, .r, .r, .r, .r, .l, .r, .b] (bodyOf Try.f24)) [6, 12, 54, 55, 56] l H0 (qAt Try.prog base 68 matrix_Inverse.ann [.r, .r, .r, .r, .r, .r, .r, .r, .l, .r, .b] [] (bodyOf Try.f24) (retQ Try.prog 68 Try.f24 K))
def matrix_Inverse.sh (base : Nat) (x0 : Int) (Ax1 : Option Addr) (lx1 cx1 : Nat) (H0 : HH) (K : Value → HH → Prop) : Prop :=
 HCall Try.prog base 53 #[(.slice Ax1 lx1 cx1)] H0 fun v1 H2 =>
 ∃ b3 : Bool, v1 = (.bool b3) ∧ if (!b3) = true then
 K (.tuple #[(.slice none 0 0), (.int .i64 1)]) H2
 else
 matrix_Inverse.P0 base [(.int .u64 x0), (.int .i64 (((lx1 : Nat) : Int))), (.slice none 0 0), (.slice Ax1 lx1 cx1), (.int .i64 (((lx1 : Nat) : Int))), (.int .i64 0)] H2 K
theorem matrix_Inverse.spec {base : Nat} {x0 : Int} {Ax1 : Option Addr} {lx1 cx1 : Nat} {H0 : HH} {K : Value → HH → Prop} (h : matrix_Inverse.sh base x0 Ax1 lx1 cx1 H0 K) : HCall Try.prog base 24 #[(.int .u64 x0), (.slice Ax1 lx1 cx1)] H0 K := spec_of_wpC (n := 68) (ann := matrix_Inverse.ann) mix Try.func24 (by kernel_rfl) (cast (show matrix_Inverse.sh base x0 Ax1 lx1 cx1 H0 K = wpC Try.prog base 68 matrix_Inverse.ann (bodyOf Try.f24) (ofL [(.int .u64 x0), (.slice Ax1 lx1 cx1)]) H0 (retQ Try.prog 68 Try.f24 K) by kernel_rfl) h)
def matrix_Inverse.B0 (base : Nat) (x0 x6 : Int) (Ax20 : Option Addr) (lx20 cx20 : Nat) (x21 : Int) (Ay7 : Option Addr) (ly7 cy7 : Nat) (y22 : Int) (g : Fr) (N0 : Value → Value → HH → Prop) (H0 : HH) (K : Value → HH → Prop) : Prop :=
 if (decide ((y22 : Int) < x21)) = true then
 ∃ a4 : Addr, AQ Try.prog (Instr.indexAt 23 (.slice Ax20 lx20 cx20) (.int .i64 y22)) (.pointer ((some a4))) ∧
 ∃ (A5 : Option Addr) (l5 c5 : Nat), QRun Try.prog (Instr.loadAt 32 (.pointer ((some a4)))) H0 (.slice A5 l5 c5) ∧
 HRun Try.prog base (Instr.makeSlice 32 (.int .i64 x6) (.int .i64 x6)) H0 fun v6 H7 =>
 ∃ (A8 : Option Addr) (l8 c8 : Nat), v6 = (.slice A8 l8 c8) ∧ ∃ a9 : Addr, AQ Try.prog (Instr.indexAt 32 (.slice A8 l8 c8) (.int .i64 y22)) (.pointer ((some a9))) ∧
 HRun Try.prog base (Instr.storeAt 22 (.pointer ((some a9))) (.int .u64 1)) H7 fun _ H10 =>
 HCall Try.prog base 55 #[(.slice A5 l5 c5)] H10 fun v11 H12 =>
 ∃ (A13 : Option Addr) (l13 c13 : Nat), v11 = (.slice A13 l13 c13) ∧ HRun Try.prog base (Builtin.append_ #[32, 32] 32 #[(.slice A13 l13 c13), (.slice A8 l8 c8)]) H12 fun v14 H15 =>
 ∃ (A16 : Option Addr) (l16 c16 : Nat), v14 = (.slice A16 l16 c16) ∧ HRun Try.prog base (Instr.buildSlice 23 1 #[(0, (.slice A16 l16 c16))]) H15 fun v17 H18 =>
 ∃ (A19 : Option Addr) (l19 c19 : Nat), v17 = (.slice A19 l19 c19) ∧ HRun Try.prog base (Builtin.append_ #[23, 23] 23 #[(.slice Ay7 ly7 cy7), (.slice A19 l19 c19)]) H18 fun v20 H21 =>
 ∃ (A22 : Option Addr) (l22 c22 : Nat), v20 = (.slice A22 l22 c22) ∧ N0 (.slice A22 l22 c22) (.int .i64 ((IntKind.i64.wrap (y22 + 1)))) H21
 else
 HCall Try.prog base 50 #[(.int .u64 x0), (.slice Ay7 ly7 cy7), (.int .i64 x6)] H0 fun v23 H24 =>
 ∃ a25 : Addr, v23 = (.pointer ((some a25))) ∧ ∃ a26 : Addr, AQ Try.prog (Instr.fieldAt 76 (.pointer ((some a25))) 2) (.pointer ((some a26))) ∧
 ∃ (A27 : Option Addr) (l27 c27 : Nat), QRun Try.prog (Instr.loadAt 57 (.pointer ((some a26)))) H24 (.slice A27 l27 c27) ∧
 if (decide ((((l27 : Nat) : Int) : Int) < x6)) = true then
 K (.tuple #[(.slice none 0 0), (.int .i64 8)]) H24
 else
 ∃ a28 : Addr, AQ Try.prog (Instr.fieldAt 76 (.pointer ((some a25))) 1) (.pointer ((some a28))) ∧
 ∃ (A29 : Option Addr) (l29 c29 : Nat), QRun Try.prog (Instr.loadAt 23 (.pointer ((some a28)))) H24 (.slice A29 l29 c29) ∧
 matrix_Inverse.P1 base [(.int .i64 x6), (.slice none 0 0), (.slice A29 l29 c29), (.int .i64 (((l29 : Nat) : Int))), (.int .i64 0)] H24 K
theorem matrix_Inverse.loop0 {base : Nat} {x0 x6 : Int} {Ax20 : Option Addr} {lx20 cx20 : Nat} {x21 : Int} {Ay7_i : Option Addr} {ly7_i cy7_i : Nat} {y22_i : Int} {H0 : HH} {K : Value → HH → Prop} (J : Nat → Option Addr → Nat → Nat → Int → HH → Prop) (n : Nat) (h0 : J n Ay7_i ly7_i cy7_i y22_i H0)
    (hs : ∀ (n : Nat) (Ay7 : Option Addr) (ly7 cy7 : Nat) (y22 : Int) (g : Fr) (H0 : HH), J n Ay7 ly7 cy7 y22 H0 → matrix_Inverse.B0 base x0 x6 Ax20 lx20 cx20 x21 Ay7 ly7 cy7 y22 g (fun w7 w22 H => ∃ n', n' < n ∧ ∃ (Ay7' : Option Addr) (ly7' cy7' : Nat) (y22' : Int), w7 = (.slice Ay7' ly7' cy7') ∧ w22 = (.int .i64 y22') ∧ J n' Ay7' ly7' cy7' y22' H) H0 K) : matrix_Inverse.P0 base [(.int .u64 x0), (.int .i64 x6), (.slice Ay7_i ly7_i cy7_i), (.slice Ax20 lx20 cx20), (.int .i64 x21), (.int .i64 y22_i)] H0 K := by
  refine loop_rule (ann := matrix_Inverse.ann) (body := codeAt [.r, .r, .r, .r, .l, .r, .b, .lp] (bodyOf Try.f24)) mix (by kernel_rfl) 1099507435392 (by kernel_rfl) [0, 6, 20, 21] [(.int .u64 x0), (.int .i64 x6), (.slice Ax20 lx20 cx20), (.int .i64 x21)] (by kernel_rfl) (fun fr ⟨e0, e6, e7, e20, e21, e22, _⟩ => ⟨e0, e6, e20, e21, trivial⟩) (fun n g H => ∃ (Ay7 : Option Addr) (ly7 cy7 : Nat) (y22 : Int), g 7 = (.slice Ay7 ly7 cy7) ∧ g 22 = (.int .i64 y22) ∧ J n Ay7 ly7 cy7 y22 H) n (fun fr ⟨e0, e6, e7, e20, e21, e22, _⟩ => ⟨Ay7_i, ly7_i, cy7_i, y22_i, e7, e22, h0⟩) ?_
  rintro n g H0 ⟨e0, e6, e20, e21, _⟩ ⟨Ay7, ly7, cy7, y22, e7, e22, hJ⟩
  rw [← ov_eq (g := g) [(0, (.int .u64 x0)), (6, (.int .i64 x6)), (7, (.slice Ay7 ly7 cy7)), (20, (.slice Ax20 lx20 cx20)), (21, (.int .i64 x21)), (22, (.int .i64 y22))] (by simp only [List.mem_cons, List.not_mem_nil, or_false, forall_eq_or_imp, forall_eq, false_implies, implies_true]; exact ⟨e0, e6, e7, e20, e21, e22⟩)]
  have key : ∀ NN : Value → Value → HH → Prop, matrix_Inverse.B0 base x0 x6 Ax20 lx20 cx20 x21 Ay7 ly7 cy7 y22 g NN H0 K = wpC Try.prog base 68 matrix_Inverse.ann (codeAt [.r, .r, .r, .r, .l, .r, .b, .lp] (bodyOf Try.f24)) (ov g [(0, (.int .u64 x0)), (6, (.int .i64 x6)), (7, (.slice Ay7 ly7 cy7)), (20, (.slice Ax20 lx20 cx20)), (21, (.int .i64 x21)), (22, (.int .i64 y22))]) H0 (thenQ (fun fr H => NN (fr 7) (fr 22) H) (qAt Try.prog base 68 matrix_Inverse.ann [.r, .r, .r, .r, .l, .r, .b] [] (bodyOf Try.f24) (retQ Try.prog 68 Try.f24 K))) := fun NN => by kernel_rfl
  refine cast ?_ (hs n Ay7 ly7 cy7 y22 g H0 hJ)
  refine (key (fun w7 w22 H => ∃ n', n' < n ∧ ∃ (Ay7' : Option Addr) (ly7' cy7' : Nat) (y22' : Int), w7 = (.slice Ay7' ly7' cy7') ∧ w22 = (.int .i64 y22') ∧ J n' Ay7' ly7' cy7' y22' H)).trans ?_
  kernel_rfl
def matrix_Inverse.B1 (base : Nat) (x6 : Int) (Ax54 : Option Addr) (lx54 cx54 : Nat) (x55 : Int) (Ay12 : Option Addr) (ly12 cy12 : Nat) (y56 : Int) (g : Fr) (N1 : Value → Value → HH → Prop) (H0 : HH) (K : Value → HH → Prop) : Prop :=
 if (decide ((y56 : Int) < x55)) = true then
 ∃ a30 : Addr, AQ Try.prog (Instr.indexAt 23 (.slice Ax54 lx54 cx54) (.int .i64 y56)) (.pointer ((some a30))) ∧
 ∃ (A31 : Option Addr) (l31 c31 : Nat), QRun Try.prog (Instr.loadAt 32 (.pointer ((some a30)))) H0 (.slice A31 l31 c31) ∧
 ∃ (A32 : Option Addr) (l32 c32 : Nat), AQ Try.prog (Instr.sliceAt 32 (.slice A31 l31 c31) (some (.int .i64 x6)) none none) (.slice A32 l32 c32) ∧
 HRun Try.prog base (Instr.buildSlice 23 1 #[(0, (.slice A32 l32 c32))]) H0 fun v33 H34 =>
 ∃ (A35 : Option Addr) (l35 c35 : Nat), v33 = (.slice A35 l35 c35) ∧ HRun Try.prog base (Builtin.append_ #[23, 23] 23 #[(.slice Ay12 ly12 cy12), (.slice A35 l35 c35)]) H34 fun v36 H37 =>
 ∃ (A38 : Option Addr) (l38 c38 : Nat), v36 = (.slice A38 l38 c38) ∧ N1 (.slice A38 l38 c38) (.int .i64 ((IntKind.i64.wrap (y56 + 1)))) H37
 else
 K (.tuple #[(.slice Ay12 ly12 cy12), (.int .i64 0)]) H0
theorem matrix_Inverse.loop1 {base : Nat} {x6 : Int} {Ax54 : Option Addr} {lx54 cx54 : Nat} {x55 : Int} {Ay12_i : Option Addr} {ly12_i cy12_i : Nat} {y56_i : Int} {H0 : HH} {K : Value → HH → Prop} (J : Nat → Option Addr → Nat → Nat → Int → HH → Prop) (n : Nat) (h0 : J n Ay12_i ly12_i cy12_i y56_i H0)
    (hs : ∀ (n : Nat) (Ay12 : Option Addr) (ly12 cy12 : Nat) (y56 : Int) (g : Fr) (H0 : HH), J n Ay12 ly12 cy12 y56 H0 → matrix_Inverse.B1 base x6 Ax54 lx54 cx54 x55 Ay12 ly12 cy12 y56 g (fun w12 w56 H => ∃ n', n' < n ∧ ∃ (Ay12' : Option Addr) (ly12' cy12' : Nat) (y56' : Int), w12 = (.slice Ay12' ly12' cy12') ∧ w56 = (.int .i64 y56') ∧ J n' Ay12' ly12' cy12' y56' H) H0 K) : matrix_Inverse.P1 base [(.int .i64 x6), (.slice Ay12_i ly12_i cy12_i), (.slice Ax54 lx54 cx54), (.int .i64 x55), (.int .i64 y56_i)] H0 K := by
  refine loop_rule (ann := matrix_Inverse.ann) (body := codeAt [.r, .r, .r, .r, .r, .r, .r, .r, .l, .r, .b, .lp] (bodyOf Try.f24)) mix (by kernel_rfl) 147501894995638505472 (by kernel_rfl) [6, 54, 55] [(.int .i64 x6), (.slice Ax54 lx54 cx54), (.int .i64 x55)] (by kernel_rfl) (fun fr ⟨e6, e12, e54, e55, e56, _⟩ => ⟨e6, e54, e55, trivial⟩) (fun n g H => ∃ (Ay12 : Option Addr) (ly12 cy12 : Nat) (y56 : Int), g 12 = (.slice Ay12 ly12 cy12) ∧ g 56 = (.int .i64 y56) ∧ J n Ay12 ly12 cy12 y56 H) n (fun fr ⟨e6, e12, e54, e55, e56, _⟩ => ⟨Ay12_i, ly12_i, cy12_i, y56_i, e12, e56, h0⟩) ?_
  rintro n g H0 ⟨e6, e54, e55, _⟩ ⟨Ay12, ly12, cy12, y56, e12, e56, hJ⟩
  rw [← ov_eq (g := g) [(6, (.int .i64 x6)), (12, (.slice Ay12 ly12 cy12)), (54, (.slice Ax54 lx54 cx54)), (55, (.int .i64 x55)), (56, (.int .i64 y56))] (by simp only [List.mem_cons, List.not_mem_nil, or_false, forall_eq_or_imp, forall_eq, false_implies, implies_true]; exact ⟨e6, e12, e54, e55, e56⟩)]
  have key : ∀ NN : Value → Value → HH → Prop, matrix_Inverse.B1 base x6 Ax54 lx54 cx54 x55 Ay12 ly12 cy12 y56 g NN H0 K = wpC Try.prog base 68 matrix_Inverse.ann (codeAt [.r, .r, .r, .r, .r, .r, .r, .r, .l, .r, .b, .lp] (bodyOf Try.f24)) (ov g [(6, (.int .i64 x6)), (12, (.slice Ay12 ly12 cy12)), (54, (.slice Ax54 lx54 cx54)), (55, (.int .i64 x55)), (56, (.int .i64 y56))]) H0 (thenQ (fun fr H => NN (fr 12) (fr 56) H) (qAt Try.prog base 68 matrix_Inverse.ann [.r, .r, .r, .r, .r, .r, .r, .r, .l, .r, .b] [] (bodyOf Try.f24) (retQ Try.prog 68 Try.f24 K))) := fun NN => by kernel_rfl
  refine cast ?_ (hs n Ay12 ly12 cy12 y56 g H0 hJ)
  refine (key (fun w12 w56 H => ∃ n', n' < n ∧ ∃ (Ay12' : Option Addr) (ly12' cy12' : Nat) (y56' : Int), w12 = (.slice Ay12' ly12' cy12') ∧ w56 = (.int .i64 y56') ∧ J n' Ay12' ly12' cy12' y56' H)).trans ?_
  kernel_rfl
end Go.Proofs.Ytbogcgkeabkliab.HL
end
section
set_option linter.unusedVariables false
namespace Go.Proofs.Ytbogcgkeabkliab.HL
open Go
theorem aq_ix {P : Program} {t e sz : Nat} (ht : P.underlying t = some (.slice e)) (hs : (P.info? e).map (·.size) = some sz) {ad : Addr} {n c : Nat} {k : IntKind} {i : Int} (h0 : 0 ≤ i) (h1 : i < n) :
    AQ P (Instr.indexAt t (.slice (some ad) n c) (.int k i)) (.pointer (some (ad.add (i.toNat * sz)))) := fun W => by
  simp [Instr.indexAt, run_under ht, asIntOf, h0, h1, run_sz hs]
theorem info22 : (Try.prog.info? 22).map (·.size) = some 1 := by kernel_rfl
theorem info32 : (Try.prog.info? 32).map (·.size) = some 1 := by kernel_rfl
theorem info3 : (Try.prog.info? 3).map (·.size) = some 1 := by kernel_rfl
theorem sc22 : scalarB Try.prog 22 = true := by kernel_rfl
theorem sc32 : scalarB Try.prog 32 = true := by kernel_rfl
theorem sc23 : scalarB Try.prog 23 = true := by kernel_rfl
theorem sc3 : scalarB Try.prog 3 = true := by kernel_rfl
theorem un32 : Try.prog.underlying 32 = some (.slice 22) := by kernel_rfl
theorem un23 : Try.prog.underlying 23 = some (.slice 32) := by kernel_rfl
theorem un57 : Try.prog.underlying 57 = some (.slice 3) := by kernel_rfl
theorem w63 {n : Int} (h0 : 0 ≤ n) (h1 : n < 9223372036854775807) : IntKind.i64.wrap (n + 1) = n + 1 := by
  unfold IntKind.wrap
  simp [IntKind.bits, IntKind.signed]
  omega
theorem Rd.at {H : HH} {A : Option Addr} {xs : List Value} (h : Rd H A xs) {i : Nat} {u : Value} (hu : xs[i]? = some u) : ∃ ad, A = some ad ∧ cellH H (ad.add i) = some u := h.get hu
/-- Words as values. -/
def us (l : List Int) : List Value := l.map (Value.int .u64)
def is (l : List Int) : List Value := l.map (Value.int .i64)
@[simp] theorem us_length (l : List Int) : (us l).length = l.length := by simp [us]
def Row (H : HH) (A : Option Addr) (n : Nat) (l : List Int) : Prop := n = l.length ∧ Rd H A (us l)
def Mat (H : HH) (A : Option Addr) (n : Nat) (m : List (List Int)) : Prop := n = m.length ∧ ∃ rs : List Value, rs.length = m.length ∧ Rd H A rs ∧ ∀ (i : Nat) (l : List Int), m[i]? = some l → ∃ A' c, rs[i]? = some (.slice A' l.length c) ∧ Rd H A' (us l)
section
variable {H : HH} {A : Option Addr} {n c : Nat} {l : List Int} {m : List (List Int)} {i : Int}
theorem Row.ext {H' : HH} (h : Row H A n l) (he : Ext H H') : Row H' A n l := ⟨h.1, h.2.ext he⟩
theorem Mat.ext {H' : HH} (h : Mat H A n m) (he : Ext H H') : Mat H' A n m := by
  obtain ⟨h1, rs, h2, h3, h4⟩ := h
  exact ⟨h1, rs, h2, h3.ext he, fun i l hl => by obtain ⟨A', c, h5, h6⟩ := h4 i l hl; exact ⟨A', c, h5, h6.ext he⟩⟩
theorem Row.nil : Row H none 0 [] := ⟨rfl, .inl rfl⟩
theorem Mat.nil : Mat H none 0 [] := ⟨rfl, [], rfl, .inl rfl, fun i l h => by simp at h⟩
theorem Row.at (h : Row H A n l) (c : Nat) (h0 : 0 ≤ i) (h1 : i < n) : ∃ a, AQ Try.prog (Instr.indexAt 32 (.slice A n c) (.int .i64 i)) (.pointer (some a)) ∧ QRun Try.prog (Instr.loadAt 22 (.pointer (some a))) H (.int .u64 (l.getD i.toNat 0)) := by
  obtain ⟨e, h⟩ := h
  have hi : i.toNat < l.length := by omega
  obtain ⟨ad, rfl, hc⟩ := h.at (i := i.toNat) (u := .int .u64 (l.getD i.toNat 0)) (by simp [us, hi])
  exact ⟨_, aq_ix un32 info22 h0 h1, q_ld sc22 (by rw [Nat.mul_one]; exact hc)⟩
theorem Mat.at (h : Mat H A n m) (c : Nat) (h0 : 0 ≤ i) (h1 : i < n) : ∃ a, AQ Try.prog (Instr.indexAt 23 (.slice A n c) (.int .i64 i)) (.pointer (some a)) ∧ ∃ A' c', QRun Try.prog (Instr.loadAt 32 (.pointer (some a))) H (.slice A' (m.getD i.toNat []).length c') ∧ Row H A' (m.getD i.toNat []).length (m.getD i.toNat []) := by
  obtain ⟨e, rs, h2, h3, h4⟩ := h
  have hi : i.toNat < m.length := by omega
  obtain ⟨A', c', h5, h6⟩ := h4 i.toNat (m.getD i.toNat []) (by simp [hi])
  obtain ⟨ad, rfl, hc⟩ := h3.at h5
  exact ⟨_, aq_ix un23 info32 h0 h1, A', c', q_ld sc32 (by rw [Nat.mul_one]; exact hc), rfl, h6⟩
end
end Go.Proofs.Ytbogcgkeabkliab.HL
end
section
set_option linter.unusedVariables false
set_option linter.unusedSimpArgs false
set_option maxRecDepth 100000
namespace Go.Proofs.Ytbogcgkeabkliab.HL
open Go
def privityref06_Rect.ann : Ann := ⟨fun k => bif Nat.beq k 6 then [] else [], fun k => false, fun k => bif Nat.beq k 4 then [0, 4] else []⟩
def privityref06_square.ann : Ann := ⟨fun k => [], fun k => false, fun k => []⟩
def privityref06_Dot.ann : Ann := ⟨fun k => bif Nat.beq k 5 then [] else [], fun k => false, fun k => bif Nat.beq k 3 then [0, 1, 2, 7, 8] else []⟩
def privityref06_Turn.ann : Ann := ⟨fun k => bif Nat.beq k 9 then [13, 14, 16] else [], fun k => false, fun k => bif Nat.beq k 4 then [0, 3, 5, 6] else bif Nat.beq k 7 then [0, 3, 5, 6, 7] else []⟩
def privityref06_Mul.ann : Ann := ⟨fun k => bif Nat.beq k 14 then [11, 12] else [], fun k => false, fun k => bif Nat.beq k 8 then [0, 1, 12, 13, 14] else bif Nat.beq k 12 then [0, 1, 12, 13, 14, 15, 16] else []⟩
def privityref06_Apply.ann : Ann := ⟨fun k => [], fun k => false, fun k => bif Nat.beq k 6 then [0, 1, 2, 10, 11] else []⟩
def privityref06_Rank.ann : Ann := ⟨fun k => [], fun k => false, fun k => []⟩
def privityref06_Det.ann : Ann := ⟨fun k => [], fun k => false, fun k => []⟩
def privityref06_beside.ann : Ann := ⟨fun k => bif Nat.beq k 5 then [1, 6, 11, 12, 13] else [], fun k => false, fun k => bif Nat.beq k 3 then [0, 1, 5, 6] else []⟩
def privityref06_Solve.ann : Ann := ⟨fun k => bif Nat.beq k 19 then [13] else [], fun k => false, fun k => bif Nat.beq k 6 then [0, 1, 2, 8, 10, 11] else bif Nat.beq k 11 then [8, 12, 13, 15] else bif Nat.beq k 17 then [8, 12, 13, 16, 17] else []⟩
def privityref06_One.ann : Ann := ⟨fun k => [], fun k => false, fun k => bif Nat.beq k 3 then [0, 3, 4] else []⟩
def privityref06_Same.ann : Ann := ⟨fun k => bif Nat.beq k 6 then [8] else [], fun k => false, fun k => bif Nat.beq k 4 then [0, 1, 5] else []⟩
def privityref06_Same.P0 (base : Nat) (l : List Value) (H0 : HH) (K : Value → HH → Prop) : Prop := HCodeL Try.prog base 27 (codeAt [.r, .r, .l, .r, .b] (bodyOf Try.f27)) [0, 1, 5] l H0 (qAt Try.prog base 27 privityref06_Same.ann [.r, .r, .l, .r, .b] [] (bodyOf Try.f27) (retQ Try.prog 27 Try.f27 K))
def privityref06_Same.sh (base : Nat) (Ax0 : Option Addr) (lx0 cx0 : Nat) (Ax1 : Option Addr) (lx1 cx1 : Nat) (H0 : HH) (K : Value → HH → Prop) : Prop :=
 if ((((lx0 : Nat) : Int) : Int) != (((lx1 : Nat) : Int))) = true then
 K (.bool false) H0
 else
 privityref06_Same.P0 base [(.slice Ax0 lx0 cx0), (.slice Ax1 lx1 cx1), (.int .i64 0)] H0 K
theorem privityref06_Same.spec {base : Nat} {Ax0 : Option Addr} {lx0 cx0 : Nat} {Ax1 : Option Addr} {lx1 cx1 : Nat} {H0 : HH} {K : Value → HH → Prop} (h : privityref06_Same.sh base Ax0 lx0 cx0 Ax1 lx1 cx1 H0 K) : HCall Try.prog base 27 #[(.slice Ax0 lx0 cx0), (.slice Ax1 lx1 cx1)] H0 K := spec_of_wpC (n := 27) (ann := privityref06_Same.ann) mix Try.func27 (by kernel_rfl) (cast (show privityref06_Same.sh base Ax0 lx0 cx0 Ax1 lx1 cx1 H0 K = wpC Try.prog base 27 privityref06_Same.ann (bodyOf Try.f27) (ofL [(.slice Ax0 lx0 cx0), (.slice Ax1 lx1 cx1)]) H0 (retQ Try.prog 27 Try.f27 K) by kernel_rfl) h)
def privityref06_Same.B0 (base : Nat) (Ax0 : Option Addr) (lx0 cx0 : Nat) (Ax1 : Option Addr) (lx1 cx1 : Nat) (y5 : Int) (g : Fr) (N0 : Value → HH → Prop) (H0 : HH) (K : Value → HH → Prop) : Prop :=
 if (decide ((y5 : Int) < (((lx0 : Nat) : Int)))) = true then
 ∃ a1 : Addr, AQ Try.prog (Instr.indexAt 23 (.slice Ax0 lx0 cx0) (.int .i64 y5)) (.pointer ((some a1))) ∧
 ∃ (A2 : Option Addr) (l2 c2 : Nat), QRun Try.prog (Instr.loadAt 32 (.pointer ((some a1)))) H0 (.slice A2 l2 c2) ∧
 ∃ a3 : Addr, AQ Try.prog (Instr.indexAt 23 (.slice Ax1 lx1 cx1) (.int .i64 y5)) (.pointer ((some a3))) ∧
 ∃ (A4 : Option Addr) (l4 c4 : Nat), QRun Try.prog (Instr.loadAt 32 (.pointer ((some a3)))) H0 (.slice A4 l4 c4) ∧
 HCall Try.prog base 23 #[(.slice A2 l2 c2), (.slice A4 l4 c4)] H0 fun v5 H6 =>
 ∃ b7 : Bool, v5 = (.bool b7) ∧ if (!b7) = true then
 K (.bool false) H6
 else
 N0 (.int .i64 ((IntKind.i64.wrap (y5 + 1)))) H6
 else
 K (.bool true) H0
theorem privityref06_Same.loop0 {base : Nat} {Ax0 : Option Addr} {lx0 cx0 : Nat} {Ax1 : Option Addr} {lx1 cx1 : Nat} {y5_i : Int} {H0 : HH} {K : Value → HH → Prop} (J : Nat → Int → HH → Prop) (n : Nat) (h0 : J n y5_i H0)
    (hs : ∀ (n : Nat) (y5 : Int) (g : Fr) (H0 : HH), J n y5 H0 → privityref06_Same.B0 base Ax0 lx0 cx0 Ax1 lx1 cx1 y5 g (fun w5 H => ∃ n', n' < n ∧ ∃ (y5' : Int), w5 = (.int .i64 y5') ∧ J n' y5' H) H0 K) : privityref06_Same.P0 base [(.slice Ax0 lx0 cx0), (.slice Ax1 lx1 cx1), (.int .i64 y5_i)] H0 K := by
  refine loop_rule (ann := privityref06_Same.ann) (body := codeAt [.r, .r, .l, .r, .b, .lp] (bodyOf Try.f27)) mix (by kernel_rfl) 134215728 (by kernel_rfl) [0, 1] [(.slice Ax0 lx0 cx0), (.slice Ax1 lx1 cx1)] (by kernel_rfl) (fun fr ⟨e0, e1, e5, _⟩ => ⟨e0, e1, trivial⟩) (fun n g H => ∃ (y5 : Int), g 5 = (.int .i64 y5) ∧ J n y5 H) n (fun fr ⟨e0, e1, e5, _⟩ => ⟨y5_i, e5, h0⟩) ?_
  rintro n g H0 ⟨e0, e1, _⟩ ⟨y5, e5, hJ⟩
  rw [← ov_eq (g := g) [(0, (.slice Ax0 lx0 cx0)), (1, (.slice Ax1 lx1 cx1)), (5, (.int .i64 y5))] (by simp only [List.mem_cons, List.not_mem_nil, or_false, forall_eq_or_imp, forall_eq, false_implies, implies_true]; exact ⟨e0, e1, e5⟩)]
  have key : ∀ NN : Value → HH → Prop, privityref06_Same.B0 base Ax0 lx0 cx0 Ax1 lx1 cx1 y5 g NN H0 K = wpC Try.prog base 27 privityref06_Same.ann (codeAt [.r, .r, .l, .r, .b, .lp] (bodyOf Try.f27)) (ov g [(0, (.slice Ax0 lx0 cx0)), (1, (.slice Ax1 lx1 cx1)), (5, (.int .i64 y5))]) H0 (thenQ (fun fr H => NN (fr 5) H) (qAt Try.prog base 27 privityref06_Same.ann [.r, .r, .l, .r, .b] [] (bodyOf Try.f27) (retQ Try.prog 27 Try.f27 K))) := fun NN => by kernel_rfl
  refine cast ?_ (hs n y5 g H0 hJ)
  refine (key (fun w5 H => ∃ n', n' < n ∧ ∃ (y5' : Int), w5 = (.int .i64 y5') ∧ J n' y5' H)).trans ?_
  kernel_rfl
def privityref06_SameList.ann : Ann := ⟨fun k => bif Nat.beq k 6 then [] else [], fun k => false, fun k => bif Nat.beq k 4 then [0, 1, 5] else []⟩
def privityref06_SameList.P0 (base : Nat) (l : List Value) (H0 : HH) (K : Value → HH → Prop) : Prop := HCodeL Try.prog base 26 (codeAt [.r, .r, .l, .r, .b] (bodyOf Try.f23)) [0, 1, 5] l H0 (qAt Try.prog base 26 privityref06_SameList.ann [.r, .r, .l, .r, .b] [] (bodyOf Try.f23) (retQ Try.prog 26 Try.f23 K))
def privityref06_SameList.sh (base : Nat) (Ax0 : Option Addr) (lx0 cx0 : Nat) (Ax1 : Option Addr) (lx1 cx1 : Nat) (H0 : HH) (K : Value → HH → Prop) : Prop :=
 if ((((lx0 : Nat) : Int) : Int) != (((lx1 : Nat) : Int))) = true then
 K (.bool false) H0
 else
 privityref06_SameList.P0 base [(.slice Ax0 lx0 cx0), (.slice Ax1 lx1 cx1), (.int .i64 0)] H0 K
theorem privityref06_SameList.spec {base : Nat} {Ax0 : Option Addr} {lx0 cx0 : Nat} {Ax1 : Option Addr} {lx1 cx1 : Nat} {H0 : HH} {K : Value → HH → Prop} (h : privityref06_SameList.sh base Ax0 lx0 cx0 Ax1 lx1 cx1 H0 K) : HCall Try.prog base 23 #[(.slice Ax0 lx0 cx0), (.slice Ax1 lx1 cx1)] H0 K := spec_of_wpC (n := 26) (ann := privityref06_SameList.ann) mix Try.func23 (by kernel_rfl) (cast (show privityref06_SameList.sh base Ax0 lx0 cx0 Ax1 lx1 cx1 H0 K = wpC Try.prog base 26 privityref06_SameList.ann (bodyOf Try.f23) (ofL [(.slice Ax0 lx0 cx0), (.slice Ax1 lx1 cx1)]) H0 (retQ Try.prog 26 Try.f23 K) by kernel_rfl) h)
def privityref06_SameList.B0 (base : Nat) (Ax0 : Option Addr) (lx0 cx0 : Nat) (Ax1 : Option Addr) (lx1 cx1 : Nat) (y5 : Int) (g : Fr) (N0 : Value → HH → Prop) (H0 : HH) (K : Value → HH → Prop) : Prop :=
 if (decide ((y5 : Int) < (((lx0 : Nat) : Int)))) = true then
 ∃ a1 : Addr, AQ Try.prog (Instr.indexAt 32 (.slice Ax0 lx0 cx0) (.int .i64 y5)) (.pointer ((some a1))) ∧
 ∃ n2 : Int, QRun Try.prog (Instr.loadAt 22 (.pointer ((some a1)))) H0 (.int .u64 n2) ∧
 ∃ a3 : Addr, AQ Try.prog (Instr.indexAt 32 (.slice Ax1 lx1 cx1) (.int .i64 y5)) (.pointer ((some a3))) ∧
 ∃ n4 : Int, QRun Try.prog (Instr.loadAt 22 (.pointer ((some a3)))) H0 (.int .u64 n4) ∧
 if ((n2 : Int) != n4) = true then
 K (.bool false) H0
 else
 N0 (.int .i64 ((IntKind.i64.wrap (y5 + 1)))) H0
 else
 K (.bool true) H0
theorem privityref06_SameList.loop0 {base : Nat} {Ax0 : Option Addr} {lx0 cx0 : Nat} {Ax1 : Option Addr} {lx1 cx1 : Nat} {y5_i : Int} {H0 : HH} {K : Value → HH → Prop} (J : Nat → Int → HH → Prop) (n : Nat) (h0 : J n y5_i H0)
    (hs : ∀ (n : Nat) (y5 : Int) (g : Fr) (H0 : HH), J n y5 H0 → privityref06_SameList.B0 base Ax0 lx0 cx0 Ax1 lx1 cx1 y5 g (fun w5 H => ∃ n', n' < n ∧ ∃ (y5' : Int), w5 = (.int .i64 y5') ∧ J n' y5' H) H0 K) : privityref06_SameList.P0 base [(.slice Ax0 lx0 cx0), (.slice Ax1 lx1 cx1), (.int .i64 y5_i)] H0 K := by
  refine loop_rule (ann := privityref06_SameList.ann) (body := codeAt [.r, .r, .l, .r, .b, .lp] (bodyOf Try.f23)) mix (by kernel_rfl) 67106864 (by kernel_rfl) [0, 1] [(.slice Ax0 lx0 cx0), (.slice Ax1 lx1 cx1)] (by kernel_rfl) (fun fr ⟨e0, e1, e5, _⟩ => ⟨e0, e1, trivial⟩) (fun n g H => ∃ (y5 : Int), g 5 = (.int .i64 y5) ∧ J n y5 H) n (fun fr ⟨e0, e1, e5, _⟩ => ⟨y5_i, e5, h0⟩) ?_
  rintro n g H0 ⟨e0, e1, _⟩ ⟨y5, e5, hJ⟩
  rw [← ov_eq (g := g) [(0, (.slice Ax0 lx0 cx0)), (1, (.slice Ax1 lx1 cx1)), (5, (.int .i64 y5))] (by simp only [List.mem_cons, List.not_mem_nil, or_false, forall_eq_or_imp, forall_eq, false_implies, implies_true]; exact ⟨e0, e1, e5⟩)]
  have key : ∀ NN : Value → HH → Prop, privityref06_SameList.B0 base Ax0 lx0 cx0 Ax1 lx1 cx1 y5 g NN H0 K = wpC Try.prog base 26 privityref06_SameList.ann (codeAt [.r, .r, .l, .r, .b, .lp] (bodyOf Try.f23)) (ov g [(0, (.slice Ax0 lx0 cx0)), (1, (.slice Ax1 lx1 cx1)), (5, (.int .i64 y5))]) H0 (thenQ (fun fr H => NN (fr 5) H) (qAt Try.prog base 26 privityref06_SameList.ann [.r, .r, .l, .r, .b] [] (bodyOf Try.f23) (retQ Try.prog 26 Try.f23 K))) := fun NN => by kernel_rfl
  refine cast ?_ (hs n y5 g H0 hJ)
  refine (key (fun w5 H => ∃ n', n' < n ∧ ∃ (y5' : Int), w5 = (.int .i64 y5') ∧ J n' y5' H)).trans ?_
  kernel_rfl
def privityref06_Fair.ann : Ann := ⟨fun k => [], fun k => false, fun k => bif Nat.beq k 4 then [0, 1, 2, 7] else []⟩
def privityref06_Fair.P0 (base : Nat) (l : List Value) (H0 : HH) (K : Value → HH → Prop) : Prop := HCodeL Try.prog base 31 (codeAt [.r, .r, .l, .r, .b] (bodyOf Try.f14)) [0, 1, 2, 7] l H0 (qAt Try.prog base 31 privityref06_Fair.ann [.r, .r, .l, .r, .b] [] (bodyOf Try.f14) (retQ Try.prog 31 Try.f14 K))
def privityref06_Fair.sh (base : Nat) (x0 : Int) (Ax1 : Option Addr) (lx1 cx1 : Nat) (x2 : Int) (H0 : HH) (K : Value → HH → Prop) : Prop :=
 HCall Try.prog base 48 #[(.int .u64 x0)] H0 fun v1 H2 =>
 ∃ b3 : Bool, v1 = (.bool b3) ∧ if (!b3) = false then
 if (decide ((((lx1 : Nat) : Int) : Int) > x2)) = true then
 K (.bool false) H2
 else
 privityref06_Fair.P0 base [(.int .u64 x0), (.slice Ax1 lx1 cx1), (.int .i64 x2), (.int .i64 0)] H2 K
 else
 K (.bool false) H2
theorem privityref06_Fair.spec {base : Nat} {x0 : Int} {Ax1 : Option Addr} {lx1 cx1 : Nat} {x2 : Int} {H0 : HH} {K : Value → HH → Prop} (h : privityref06_Fair.sh base x0 Ax1 lx1 cx1 x2 H0 K) : HCall Try.prog base 14 #[(.int .u64 x0), (.slice Ax1 lx1 cx1), (.int .i64 x2)] H0 K := spec_of_wpC (n := 31) (ann := privityref06_Fair.ann) mix Try.func14 (by kernel_rfl) (cast (show privityref06_Fair.sh base x0 Ax1 lx1 cx1 x2 H0 K = wpC Try.prog base 31 privityref06_Fair.ann (bodyOf Try.f14) (ofL [(.int .u64 x0), (.slice Ax1 lx1 cx1), (.int .i64 x2)]) H0 (retQ Try.prog 31 Try.f14 K) by kernel_rfl) h)
def privityref06_Fair.B0 (base : Nat) (x0 : Int) (Ax1 : Option Addr) (lx1 cx1 : Nat) (x2 : Int) (y7 : Int) (g : Fr) (N0 : Value → HH → Prop) (H0 : HH) (K : Value → HH → Prop) : Prop :=
 if (decide ((y7 : Int) < (((lx1 : Nat) : Int)))) = true then
 ∃ a4 : Addr, AQ Try.prog (Instr.indexAt 23 (.slice Ax1 lx1 cx1) (.int .i64 y7)) (.pointer ((some a4))) ∧
 ∃ (A5 : Option Addr) (l5 c5 : Nat), QRun Try.prog (Instr.loadAt 32 (.pointer ((some a4)))) H0 (.slice A5 l5 c5) ∧
 HCall Try.prog base 20 #[(.int .u64 x0), (.slice A5 l5 c5), (.int .i64 x2)] H0 fun v6 H7 =>
 ∃ b8 : Bool, v6 = (.bool b8) ∧ if (!b8) = true then
 K (.bool false) H7
 else
 N0 (.int .i64 ((IntKind.i64.wrap (y7 + 1)))) H7
 else
 K (.bool true) H0
theorem privityref06_Fair.loop0 {base : Nat} {x0 : Int} {Ax1 : Option Addr} {lx1 cx1 : Nat} {x2 y7_i : Int} {H0 : HH} {K : Value → HH → Prop} (J : Nat → Int → HH → Prop) (n : Nat) (h0 : J n y7_i H0)
    (hs : ∀ (n : Nat) (y7 : Int) (g : Fr) (H0 : HH), J n y7 H0 → privityref06_Fair.B0 base x0 Ax1 lx1 cx1 x2 y7 g (fun w7 H => ∃ n', n' < n ∧ ∃ (y7' : Int), w7 = (.int .i64 y7') ∧ J n' y7' H) H0 K) : privityref06_Fair.P0 base [(.int .u64 x0), (.slice Ax1 lx1 cx1), (.int .i64 x2), (.int .i64 y7_i)] H0 K := by
  refine loop_rule (ann := privityref06_Fair.ann) (body := codeAt [.r, .r, .l, .r, .b, .lp] (bodyOf Try.f14)) mix (by kernel_rfl) 2147352768 (by kernel_rfl) [0, 1, 2] [(.int .u64 x0), (.slice Ax1 lx1 cx1), (.int .i64 x2)] (by kernel_rfl) (fun fr ⟨e0, e1, e2, e7, _⟩ => ⟨e0, e1, e2, trivial⟩) (fun n g H => ∃ (y7 : Int), g 7 = (.int .i64 y7) ∧ J n y7 H) n (fun fr ⟨e0, e1, e2, e7, _⟩ => ⟨y7_i, e7, h0⟩) ?_
  rintro n g H0 ⟨e0, e1, e2, _⟩ ⟨y7, e7, hJ⟩
  rw [← ov_eq (g := g) [(0, (.int .u64 x0)), (1, (.slice Ax1 lx1 cx1)), (2, (.int .i64 x2)), (7, (.int .i64 y7))] (by simp only [List.mem_cons, List.not_mem_nil, or_false, forall_eq_or_imp, forall_eq, false_implies, implies_true]; exact ⟨e0, e1, e2, e7⟩)]
  have key : ∀ NN : Value → HH → Prop, privityref06_Fair.B0 base x0 Ax1 lx1 cx1 x2 y7 g NN H0 K = wpC Try.prog base 31 privityref06_Fair.ann (codeAt [.r, .r, .l, .r, .b, .lp] (bodyOf Try.f14)) (ov g [(0, (.int .u64 x0)), (1, (.slice Ax1 lx1 cx1)), (2, (.int .i64 x2)), (7, (.int .i64 y7))]) H0 (thenQ (fun fr H => NN (fr 7) H) (qAt Try.prog base 31 privityref06_Fair.ann [.r, .r, .l, .r, .b] [] (bodyOf Try.f14) (retQ Try.prog 31 Try.f14 K))) := fun NN => by kernel_rfl
  refine cast ?_ (hs n y7 g H0 hJ)
  refine (key (fun w7 H => ∃ n', n' < n ∧ ∃ (y7' : Int), w7 = (.int .i64 y7') ∧ J n' y7' H)).trans ?_
  kernel_rfl
def privityref06_Below.ann : Ann := ⟨fun k => [], fun k => bif Nat.beq k 6 then true else false, fun k => bif Nat.beq k 2 then [0, 1, 2, 7] else bif Nat.beq k 6 then [1, 2] else []⟩
def privityref06_Below.P0 (base : Nat) (l : List Value) (H0 : HH) (K : Value → HH → Prop) : Prop := HCodeL Try.prog base 29 (codeAt [.r, .l, .r, .b] (bodyOf Try.f20)) [0, 1, 2, 7] l H0 (qAt Try.prog base 29 privityref06_Below.ann [.r, .l, .r, .b] [] (bodyOf Try.f20) (retQ Try.prog 29 Try.f20 K))
def privityref06_Below.R0 (base : Nat) (l : List Value) (H0 : HH) (K : Value → HH → Prop) : Prop := HCodeL Try.prog base 29 (codeAt [.r, .r] (bodyOf Try.f20)) [1, 2] l H0 (qAt Try.prog base 29 privityref06_Below.ann [.r, .r] [] (bodyOf Try.f20) (retQ Try.prog 29 Try.f20 K))
def privityref06_Below.S0 (base : Nat) (Ax1 : Option Addr) (lx1 cx1 : Nat) (x2 : Int) (H0 : HH) (K : Value → HH → Prop) : Prop :=
 K (.bool ((decide ((((lx1 : Nat) : Int) : Int) ≤ x2)))) H0
theorem privityref06_Below.rest0 {base : Nat} {Ax1 : Option Addr} {lx1 cx1 : Nat} {x2 : Int} {H0 : HH} {K : Value → HH → Prop} (h : privityref06_Below.S0 base Ax1 lx1 cx1 x2 H0 K) : privityref06_Below.R0 base [(.slice Ax1 lx1 cx1), (.int .i64 x2)] H0 K := by
  refine wpCL_sound (ann := privityref06_Below.ann) mix (fun fr ⟨e1, e2, _⟩ => ?_)
  rw [← ov_eq (g := fr) [(1, (.slice Ax1 lx1 cx1)), (2, (.int .i64 x2))] (by simp only [List.mem_cons, List.not_mem_nil, or_false, forall_eq_or_imp, forall_eq, false_implies, implies_true]; exact ⟨e1, e2⟩)]
  exact cast (show privityref06_Below.S0 base Ax1 lx1 cx1 x2 H0 K = wpC Try.prog base 29 privityref06_Below.ann (codeAt [.r, .r] (bodyOf Try.f20)) (ov fr [(1, (.slice Ax1 lx1 cx1)), (2, (.int .i64 x2))]) H0 (qAt Try.prog base 29 privityref06_Below.ann [.r, .r] [] (bodyOf Try.f20) (retQ Try.prog 29 Try.f20 K)) by kernel_rfl) h
def privityref06_Below.sh (base : Nat) (x0 : Int) (Ax1 : Option Addr) (lx1 cx1 : Nat) (x2 : Int) (H0 : HH) (K : Value → HH → Prop) : Prop :=
 privityref06_Below.P0 base [(.int .u64 x0), (.slice Ax1 lx1 cx1), (.int .i64 x2), (.int .i64 0)] H0 K
theorem privityref06_Below.spec {base : Nat} {x0 : Int} {Ax1 : Option Addr} {lx1 cx1 : Nat} {x2 : Int} {H0 : HH} {K : Value → HH → Prop} (h : privityref06_Below.sh base x0 Ax1 lx1 cx1 x2 H0 K) : HCall Try.prog base 20 #[(.int .u64 x0), (.slice Ax1 lx1 cx1), (.int .i64 x2)] H0 K := spec_of_wpC (n := 29) (ann := privityref06_Below.ann) mix Try.func20 (by kernel_rfl) (cast (show privityref06_Below.sh base x0 Ax1 lx1 cx1 x2 H0 K = wpC Try.prog base 29 privityref06_Below.ann (bodyOf Try.f20) (ofL [(.int .u64 x0), (.slice Ax1 lx1 cx1), (.int .i64 x2)]) H0 (retQ Try.prog 29 Try.f20 K) by kernel_rfl) h)
def privityref06_Below.B0 (base : Nat) (x0 : Int) (Ax1 : Option Addr) (lx1 cx1 : Nat) (x2 : Int) (y7 : Int) (g : Fr) (N0 : Value → HH → Prop) (H0 : HH) (K : Value → HH → Prop) : Prop :=
 if (decide ((y7 : Int) < (((lx1 : Nat) : Int)))) = true then
 if (decide ((y7 : Int) ≤ x2)) = true then
 ∃ a1 : Addr, AQ Try.prog (Instr.indexAt 32 (.slice Ax1 lx1 cx1) (.int .i64 y7)) (.pointer ((some a1))) ∧
 ∃ n2 : Int, QRun Try.prog (Instr.loadAt 22 (.pointer ((some a1)))) H0 (.int .u64 n2) ∧
 if (decide ((n2 : Int) ≥ x0)) = true then
 K (.bool false) H0
 else
 N0 (.int .i64 ((IntKind.i64.wrap (y7 + 1)))) H0
 else
 privityref06_Below.R0 base [(.slice Ax1 lx1 cx1), (.int .i64 x2)] H0 K
 else
 privityref06_Below.R0 base [(.slice Ax1 lx1 cx1), (.int .i64 x2)] H0 K
theorem privityref06_Below.loop0 {base : Nat} {x0 : Int} {Ax1 : Option Addr} {lx1 cx1 : Nat} {x2 y7_i : Int} {H0 : HH} {K : Value → HH → Prop} (J : Nat → Int → HH → Prop) (n : Nat) (h0 : J n y7_i H0)
    (hs : ∀ (n : Nat) (y7 : Int) (g : Fr) (H0 : HH), J n y7 H0 → privityref06_Below.B0 base x0 Ax1 lx1 cx1 x2 y7 g (fun w7 H => ∃ n', n' < n ∧ ∃ (y7' : Int), w7 = (.int .i64 y7') ∧ J n' y7' H) H0 K) : privityref06_Below.P0 base [(.int .u64 x0), (.slice Ax1 lx1 cx1), (.int .i64 x2), (.int .i64 y7_i)] H0 K := by
  refine loop_rule (ann := privityref06_Below.ann) (body := codeAt [.r, .l, .r, .b, .lp] (bodyOf Try.f20)) mix (by kernel_rfl) 33554368 (by kernel_rfl) [0, 1, 2] [(.int .u64 x0), (.slice Ax1 lx1 cx1), (.int .i64 x2)] (by kernel_rfl) (fun fr ⟨e0, e1, e2, e7, _⟩ => ⟨e0, e1, e2, trivial⟩) (fun n g H => ∃ (y7 : Int), g 7 = (.int .i64 y7) ∧ J n y7 H) n (fun fr ⟨e0, e1, e2, e7, _⟩ => ⟨y7_i, e7, h0⟩) ?_
  rintro n g H0 ⟨e0, e1, e2, _⟩ ⟨y7, e7, hJ⟩
  rw [← ov_eq (g := g) [(0, (.int .u64 x0)), (1, (.slice Ax1 lx1 cx1)), (2, (.int .i64 x2)), (7, (.int .i64 y7))] (by simp only [List.mem_cons, List.not_mem_nil, or_false, forall_eq_or_imp, forall_eq, false_implies, implies_true]; exact ⟨e0, e1, e2, e7⟩)]
  have key : ∀ NN : Value → HH → Prop, privityref06_Below.B0 base x0 Ax1 lx1 cx1 x2 y7 g NN H0 K = wpC Try.prog base 29 privityref06_Below.ann (codeAt [.r, .l, .r, .b, .lp] (bodyOf Try.f20)) (ov g [(0, (.int .u64 x0)), (1, (.slice Ax1 lx1 cx1)), (2, (.int .i64 x2)), (7, (.int .i64 y7))]) H0 (thenQ (fun fr H => NN (fr 7) H) (qAt Try.prog base 29 privityref06_Below.ann [.r, .l, .r, .b] [] (bodyOf Try.f20) (retQ Try.prog 29 Try.f20 K))) := fun NN => by kernel_rfl
  refine cast ?_ (hs n y7 g H0 hJ)
  refine (key (fun w7 H => ∃ n', n' < n ∧ ∃ (y7' : Int), w7 = (.int .i64 y7') ∧ J n' y7' H)).trans ?_
  kernel_rfl
end Go.Proofs.Ytbogcgkeabkliab.HL
end
section
set_option linter.unusedVariables false
set_option linter.unusedSimpArgs false
namespace Go.Proofs.Ytbogcgkeabkliab.HL
open Go
theorem nxt {j n : Nat} (h : j < n) (hn : n ≤ maxLen) : IntKind.i64.wrap ((j : Int) + 1) = ((j + 1 : Nat) : Int) := by
  rw [w63 (by omega) (by unfold maxLen at hn; omega)]; omega
theorem take_eq_succ {α : Type} {l l' : List α} {j : Nat} (h : l.take j = l'.take j) (h1 : j < l.length) (h2 : j < l'.length) {d : α} (e : l.getD j d = l'.getD j d) : l.take (j + 1) = l'.take (j + 1) := by
  rw [List.take_add_one, List.take_add_one, h, List.getElem?_eq_getElem h1, List.getElem?_eq_getElem h2]
  simp [h1, h2] at e
  rw [e]
section
variable {base : Nat} {H : HH} {K : Value → HH → Prop} {A A' : Option Addr} {n n' c c' : Nat}
theorem h_sameList {l l' : List Int} (h : Row H A n l) (h' : Row H A' n' l') (hm : l.length ≤ maxLen) (hk : K (.bool (decide (l = l'))) H) : HCall Try.prog base 23 #[.slice A n c, .slice A' n' c'] H K := by
  refine privityref06_SameList.spec ?_
  unfold privityref06_SameList.sh
  have e1 := h.1
  have e2 := h'.1
  split
  · rename_i e
    have : l ≠ l' := fun hl => by subst hl; simp at e; omega
    simpa [this] using hk
  · rename_i e
    have en : n = n' := by simp at e; omega
    refine privityref06_SameList.loop0 (fun m y H' => H' = H ∧ ∃ j : Nat, y = j ∧ j ≤ n ∧ m = n - j ∧ l.take j = l'.take j) n ⟨rfl, 0, rfl, Nat.zero_le _, by omega, by simp⟩ ?_
    rintro m y g H' ⟨rfl, j, rfl, hj, hm', ht⟩
    unfold privityref06_SameList.B0
    split
    · rename_i e
      have e := of_decide_eq_true e
      obtain ⟨a, q1, q2⟩ := h.at c (i := j) (by omega) e
      refine ⟨a, q1, _, q2, ?_⟩
      obtain ⟨a, q1, q2⟩ := h'.at c' (i := j) (by omega) (by omega)
      refine ⟨a, q1, _, q2, ?_⟩
      rw [Int.toNat_natCast]
      split
      · rename_i e3
        have : l ≠ l' := fun hl => by subst hl; simp at e3
        simpa [this] using hk
      · rename_i e3
        refine ⟨m - 1, by omega, _, rfl, rfl, j + 1, nxt (n := n) (by omega) (by omega), by omega, by omega, take_eq_succ ht (by omega) (by omega) (d := 0) (by simpa using e3)⟩
    · rename_i e
      have e : ¬ ((j : Int) < (n : Int)) := fun h => e (decide_eq_true h)
      have : l = l' := by rwa [List.take_of_length_le (by omega), List.take_of_length_le (by omega)] at ht
      simpa [this] using hk
theorem h_same {m m' : List (List Int)} (h : Mat H A n m) (h' : Mat H A' n' m') (hm : m.length ≤ maxLen) (hr : ∀ r ∈ m, r.length ≤ maxLen) (hk : K (.bool (decide (m = m'))) H) : HCall Try.prog base 27 #[.slice A n c, .slice A' n' c'] H K := by
  refine privityref06_Same.spec ?_
  unfold privityref06_Same.sh
  have e1 := h.1
  have e2 := h'.1
  split
  · rename_i e
    have : m ≠ m' := fun hl => by subst hl; simp at e; omega
    simpa [this] using hk
  · rename_i e
    have en : n = n' := by simp at e; omega
    refine privityref06_Same.loop0 (fun k y H' => H' = H ∧ ∃ j : Nat, y = j ∧ j ≤ n ∧ k = n - j ∧ m.take j = m'.take j) n ⟨rfl, 0, rfl, Nat.zero_le _, by omega, by simp⟩ ?_
    rintro k y g H' ⟨rfl, j, rfl, hj, hm', ht⟩
    unfold privityref06_Same.B0
    split
    · rename_i e
      have e := of_decide_eq_true e
      obtain ⟨a, q1, A1, c1, q2, q3⟩ := h.at c (i := j) (by omega) e
      refine ⟨a, q1, _, _, _, q2, ?_⟩
      obtain ⟨a, q1, A2, c2, q2, q4⟩ := h'.at c' (i := j) (by omega) (by omega)
      refine ⟨a, q1, _, _, _, q2, ?_⟩
      rw [Int.toNat_natCast] at q3 q4 ⊢
      refine h_sameList q3 q4 (hr _ (by simp [show j < m.length by omega])) ⟨_, rfl, ?_⟩
      split
      · rename_i e3
        have : m ≠ m' := fun hl => by subst hl; simp at e3
        simpa [this] using hk
      · rename_i e3
        refine ⟨k - 1, by omega, _, rfl, rfl, j + 1, nxt (n := n) (by omega) (by omega), by omega, by omega, take_eq_succ ht (by omega) (by omega) (d := []) (by simpa using e3)⟩
    · rename_i e
      have e : ¬ ((j : Int) < (n : Int)) := fun h => e (decide_eq_true h)
      have : m = m' := by rwa [List.take_of_length_le (by omega), List.take_of_length_le (by omega)] at ht
      simpa [this] using hk
def belowB (p : Int) (l : List Int) (most : Int) : Bool := decide ((l.length : Int) ≤ most) && l.all fun x => decide (x < p)
theorem h_below {l : List Int} {p most : Int} (h : Row H A n l) (hm : l.length ≤ maxLen) (hk : K (.bool (belowB p l most)) H) : HCall Try.prog base 20 #[.int .u64 p, .slice A n c, .int .i64 most] H K := by
  refine privityref06_Below.spec ?_
  unfold privityref06_Below.sh
  have e1 := h.1
  refine privityref06_Below.loop0 (fun m y H' => H' = H ∧ ∃ j : Nat, y = j ∧ j ≤ n ∧ m = n - j ∧ ∀ x ∈ l.take j, x < p) n ⟨rfl, 0, rfl, Nat.zero_le _, by omega, by simp⟩ ?_
  rintro m y g H' ⟨rfl, j, rfl, hj, hm', ht⟩
  unfold privityref06_Below.B0
  split
  · rename_i e
    have e := of_decide_eq_true e
    split
    · rename_i e4
      obtain ⟨a, q1, q2⟩ := h.at c (i := j) (by omega) e
      refine ⟨a, q1, _, q2, ?_⟩
      rw [Int.toNat_natCast]
      split
      · rename_i e3
        have e3 := of_decide_eq_true e3
        have : belowB p l most = false := by
          unfold belowB
          rw [Bool.and_eq_false_iff]
          right
          rw [List.all_eq_false]
          exact ⟨l.getD j 0, by simp [show j < l.length by omega], by simpa using e3⟩
        rwa [this] at hk
      · rename_i e3
        refine ⟨m - 1, by omega, _, rfl, rfl, j + 1, nxt (n := n) (by omega) (by omega), by omega, by omega, ?_⟩
        intro x hx
        rw [List.take_add_one, List.mem_append] at hx
        rcases hx with hx | hx
        · exact ht x hx
        · simp [show j < l.length by omega] at hx e3
          omega
    · rename_i e4
      refine privityref06_Below.rest0 ?_
      unfold privityref06_Below.S0
      have e4 : ¬ ((j : Int) ≤ most) := fun h => e4 (decide_eq_true h)
      have : belowB p l most = decide (((n : Nat) : Int) ≤ most) := by
        unfold belowB
        rw [decide_eq_false (show ¬ (l.length : Int) ≤ most by omega), decide_eq_false (by omega)]
        simp
      rwa [this] at hk
  · rename_i e
    refine privityref06_Below.rest0 ?_
    unfold privityref06_Below.S0
    have e : ¬ ((j : Int) < (n : Int)) := fun h => e (decide_eq_true h)
    have : belowB p l most = decide (((n : Nat) : Int) ≤ most) := by
      unfold belowB
      rw [List.take_of_length_le (by omega)] at ht
      rw [e1]
      have : (l.all fun x => decide (x < p)) = true := by simpa using ht
      rw [this, Bool.and_true]
    rwa [this] at hk
def fairB (p : Int) (m : List (List Int)) (most : Int) : Bool := supB p && decide ((m.length : Int) ≤ most) && m.all fun l => belowB p l most
end
end Go.Proofs.Ytbogcgkeabkliab.HL
end
section
set_option linter.unusedVariables false
set_option linter.unusedSimpArgs false
namespace Go.Proofs.Ytbogcgkeabkliab.HL
open Go
section
variable {base : Nat} {H : HH} {K : Value → HH → Prop} {A A' : Option Addr} {n n' c c' : Nat} {m : List (List Int)}
/-- No sizes that no machine has. -/
def Sz (m : List (List Int)) : Prop := m.length ≤ maxLen ∧ ∀ r ∈ m, r.length ≤ maxLen
theorem Sz.at (h : Sz m) {j : Nat} (hj : j < m.length) : (m.getD j []).length ≤ maxLen := h.2 _ (by simp [hj])
theorem all_false {α : Type} {f : α → Bool} {m : List α} {j : Nat} {d : α} (hj : j < m.length) (h : f (m.getD j d) = false) : m.all f = false := by
  rw [List.all_eq_false]
  exact ⟨m.getD j d, by simp [hj], by rw [h]; exact Bool.false_ne_true⟩
theorem beqi (a b : Nat) : (((a : Nat) : Int) == ((b : Nat) : Int)) = decide (a = b) := by rw [Bool.eq_iff_iff]; simp; omega
theorem all_take {α : Type} {f : α → Bool} {m : List α} {j : Nat} {d : α} (hj : j < m.length) (h : (m.take j).all f = true) (h1 : f (m.getD j d) = true) : (m.take (j + 1)).all f = true := by
  rw [List.take_add_one, List.all_append, h, List.getElem?_eq_getElem hj]
  simp [hj] at h1
  simp [h1]
theorem all_done {α : Type} {f : α → Bool} {m : List α} {j : Nat} (hj : m.length ≤ j) (h : (m.take j).all f = true) : m.all f = true := by rwa [List.take_of_length_le hj] at h
theorem h_fair {p most : Int} (h : Mat H A n m) (hz : Sz m) (hk : K (.bool (fairB p m most)) H) : HCall Try.prog base 14 #[.int .u64 p, .slice A n c, .int .i64 most] H K := by
  refine privityref06_Fair.spec ?_
  unfold privityref06_Fair.sh
  have e1 := h.1
  have e2 := hz.1
  refine h_sup p ⟨_, rfl, ?_⟩
  split
  · rename_i e
    have e : supB p = true := by simpa using e
    split
    · rename_i e3
      have e3 := of_decide_eq_true e3
      have : fairB p m most = false := by unfold fairB; rw [decide_eq_false (by omega)]; simp
      rwa [this] at hk
    · rename_i e3
      have e3 : ¬ ((n : Int) > most) := fun h => e3 (decide_eq_true h)
      refine privityref06_Fair.loop0 (fun k y H' => H' = H ∧ ∃ j : Nat, y = j ∧ j ≤ n ∧ k = n - j ∧ ((m.take j).all fun l => belowB p l most) = true) n ⟨rfl, 0, rfl, Nat.zero_le _, by omega, by simp⟩ ?_
      rintro k y g H' ⟨rfl, j, rfl, hj, hm', ht⟩
      unfold privityref06_Fair.B0
      split
      · rename_i e
        have e := of_decide_eq_true e
        obtain ⟨a, q1, A1, c1, q2, q3⟩ := h.at c (i := j) (by omega) e
        refine ⟨a, q1, _, _, _, q2, ?_⟩
        rw [Int.toNat_natCast] at q3 ⊢
        refine h_below q3 (hz.at (by omega)) ⟨_, rfl, ?_⟩
        split
        · rename_i e4
          have : fairB p m most = false := by unfold fairB; rw [all_false (j := j) (d := []) (by omega) (by simpa using e4)]; simp
          rwa [this] at hk
        · rename_i e4
          exact ⟨k - 1, by omega, _, rfl, rfl, j + 1, nxt (n := n) (by omega) (by omega), by omega, by omega, all_take (d := []) (by omega) ht (by simpa using e4)⟩
      · rename_i e
        have e : ¬ ((j : Int) < (n : Int)) := fun h => e (decide_eq_true h)
        have : fairB p m most = true := by unfold fairB; rw [all_done (by omega) ht, ‹supB p = true›, decide_eq_true (by omega)]; rfl
        rwa [this] at hk
  · rename_i e
    have e : supB p = false := by simpa using e
    have : fairB p m most = false := by unfold fairB; rw [e]; rfl
    rwa [this] at hk
/-- Every row is as long as the first. -/
def rectB (m : List (List Int)) : Bool := m.all fun r => decide (r.length = (m.getD 0 []).length)
def colsN (m : List (List Int)) : Nat := (m.getD 0 []).length
def squareB (m : List (List Int)) : Bool := rectB m && decide (0 < m.length) && decide (colsN m = m.length)
theorem h_cols (h : Mat H A n m) (hk : K (.int .i64 (colsN m)) H) : HCall Try.prog base 51 #[.slice A n c] H K := by
  refine matrix_cols.spec ?_
  unfold matrix_cols.sh
  have e1 := h.1
  split
  · rename_i e
    have : m = [] := List.eq_nil_of_length_eq_zero (by simp at e; omega)
    subst this
    exact hk
  · rename_i e
    have e0 : 0 < n := by simp at e; omega
    obtain ⟨a, p1, A1, c1, p2, p3⟩ := h.at c (i := 0) (by omega) (by omega)
    exact ⟨a, p1, _, _, _, p2, hk⟩
/-- rect's closure: it reads m in its box. -/
theorem h_rect1 {x : Addr} {r : List Int} {k : Nat} (hb : cellH H x = some (.slice A n c)) (h : Mat H A n m) (h0 : 0 < n) (hr : Row H A' k r) (hk : K (.bool ((r.length : Int) != (colsN m : Int))) H) : HCall Try.prog base 76 #[.slice A' k c', .pointer (some x)] H K := by
  refine matrix_rect_1.spec ?_
  unfold matrix_rect_1.sh
  obtain ⟨a, p1, A1, c1, p2, p3⟩ := h.at c (i := 0) (by omega) (by omega)
  exact ⟨_, _, _, q_ld sc23 hb, a, p1, _, _, _, p2, by rw [hr.1]; exact hk⟩
theorem h_index {x : Addr} (hb : cellH H x = some (.slice A n c)) (h : Mat H A n m) (hz : Sz m) (hk : ∀ i : Int, (0 ≤ i ↔ rectB m = false) → K (.int .i64 i) H) : HCall Try.prog base 88 #[.slice A n c, .func (.func 76) #[] #[.pointer (some x)]] H K := by
  refine slices_IndexFunc_LLuint64_Luint64.spec ?_
  unfold slices_IndexFunc_LLuint64_Luint64.sh
  have e1 := h.1
  have e2 := hz.1
  refine slices_IndexFunc_LLuint64_Luint64.loop0 (fun k y H' => H' = H ∧ ∃ j : Nat, y = j ∧ j ≤ n ∧ k = n - j ∧ ((m.take j).all fun r => decide (r.length = (m.getD 0 []).length)) = true) n ⟨rfl, 0, rfl, Nat.zero_le _, by omega, by simp⟩ ?_
  rintro k y g H' ⟨rfl, j, rfl, hj, hm', ht⟩
  unfold slices_IndexFunc_LLuint64_Luint64.B0
  split
  · rename_i e
    have e := of_decide_eq_true e
    obtain ⟨b, q1, A2, c2, q2, q3⟩ := h.at c (i := j) (by omega) e
    refine ⟨b, q1, _, _, _, q2, ?_⟩
    refine h_rect1 hb h (by omega) q3 ⟨_, rfl, ?_⟩
    rw [Int.toNat_natCast]
    split
    · rename_i e4
      have : rectB m = false := all_false (j := j) (d := []) (by omega) (by unfold colsN at e4; simp at e4 ⊢; omega)
      exact hk _ (by simp [this])
    · rename_i e4
      exact ⟨k - 1, by omega, _, rfl, rfl, j + 1, nxt (n := n) (by omega) (by omega), by omega, by omega, all_take (d := []) (by omega) ht (by unfold colsN at e4; simp at e4 ⊢; omega)⟩
  · rename_i e
    have e : ¬ ((j : Int) < (n : Int)) := fun h => e (decide_eq_true h)
    have : rectB m = true := all_done (by omega) ht
    exact hk _ (by simp [this])
theorem h_rect (h : Mat H A n m) (hz : Sz m) (hk : K (.bool (rectB m)) H) : HCall Try.prog base 49 #[.slice A n c] H K := by
  refine (HCall.less (Q := fun v H' => v = .bool (rectB m)) ?_).use (fun v H' ⟨h1, h2⟩ => by subst h1; rw [h2]; exact hk)
  refine matrix_rect.spec ?_
  unfold matrix_rect.sh
  refine h_box (fun b hb _ => ⟨_, rfl, ?_⟩)
  have he : Ext H (upd H b (.cells (Value.slice A n c).cells 23)) := Ext.upd hb _
  have hc : cellH (upd H b (.cells (Value.slice A n c).cells 23)) ⟨b, 0, none⟩ = some (.slice A n c) := by rw [cellH_blk (upd_self _ _ _)]; rfl
  refine ⟨_, _, _, q_ld sc23 hc, ?_⟩
  refine slices_ContainsFunc_LLuint64_Luint64.spec ?_
  unfold slices_ContainsFunc_LLuint64_Luint64.sh
  refine h_index hc (h.ext he) hz (fun i hi => ⟨_, rfl, ⟨_, rfl, he, ?_⟩⟩)
  by_cases e : rectB m = true
  · rw [decide_eq_false (by have : ¬ 0 ≤ i := fun h => by rw [e] at hi; simp at hi; omega
                            omega), e]; rfl
  · have e : rectB m = false := by simpa using e
    rw [decide_eq_true (hi.2 e), e]; rfl
theorem h_square (h : Mat H A n m) (hz : Sz m) (hk : K (.bool (squareB m)) H) : HCall Try.prog base 53 #[.slice A n c] H K := by
  refine matrix_square.spec ?_
  unfold matrix_square.sh
  have e1 := h.1
  unfold squareB at hk
  split
  · rename_i e2
    have e2 := of_decide_eq_true e2
    rw [decide_eq_true (show 0 < m.length by omega)] at hk
    refine h_rect h hz ⟨_, rfl, ?_⟩
    split
    · rename_i e
      rw [e] at hk
      refine h_cols h ⟨_, rfl, ?_⟩
      have : (((n : Nat) : Int) == ((colsN m : Nat) : Int)) = (true && true && decide (colsN m = m.length)) := by rw [e1, beqi]; simp [eq_comm]
      rw [this]; exact hk
    · rename_i e
      have e : rectB m = false := by simpa using e
      rw [e] at hk
      exact hk
  · rename_i e2
    have e2 : ¬ ((n : Int) > 0) := fun h => e2 (decide_eq_true h)
    rw [decide_eq_false (show ¬ 0 < m.length by omega)] at hk
    simpa using hk
end
end Go.Proofs.Ytbogcgkeabkliab.HL
end
section
set_option linter.unusedVariables false
set_option linter.unusedSimpArgs false
namespace Go.Proofs.Ytbogcgkeabkliab.HL
open Go
theorem Grows.trans_ext {H H1 H2 : HH} {v v' : Value} (he : Ext H H1) (h : Grows H1 H2 v v') : Grows H H2 v v' :=
  ⟨fun b o hb ho => h.keep b o hb (he b o ho), h.at_.imp id (fun k b hb => he.none (k b hb))⟩
section
variable {P : Program} {base : Nat} {H : HH}
theorem h_push {t e by_ ty : Nat} {z : Value} (ht : P.underlying t = some (.slice e)) (hi : (P.info? e).map (fun i => (i.zero, i.size, i.bytes)) = some (some z, 1, by_)) (hz : z.cells = #[z]) (hby : by_ ≤ 128) {u v : Value} (hu : u.oneCell' = true) {n : Nat} {xs : List Value}
    (ho : Own base H e 1 v n xs) (hlim : n + 1 < 1099511627776) {C : Option Addr → Nat → Nat → HH → Prop}
    (h : ∀ A' c' H', Own base H' e 1 (.slice A' (n + 1) c') (n + 1) (xs ++ [u]) → Grows H H' v (.slice A' (n + 1) c') → C A' (n + 1) c' H') :
    HRun P base (Instr.buildSlice t 1 #[(0, u)]) H fun v1 H1 => ∃ (A : Option Addr) (l c : Nat), v1 = .slice A l c ∧ HRun P base (Builtin.append_ #[t, t] ty #[v, .slice A l c]) H1 fun v2 H2 => ∃ (A' : Option Addr) (l' c' : Nat), v2 = .slice A' l' c' ∧ C A' l' c' H2 := by
  have hc : u.cells = #[u] := by cases u <;> first | rfl | (simp [Value.oneCell'] at hu)
  have hfill : Instr.fill (fun i => some (i * 1, 1)) (madeCells z.cells (1 * 1)) [(0, u)] = some #[u] := by
    simp [Instr.fill, madeCells, hz, hc, show Array.range 1 = #[0] from by decide]
  refine h_lit (sz := 1) (z := z) (cs := #[u]) ht ?_ (by decide) hfill (by decide) (fun b hb hbase => ?_)
  · obtain ⟨i, h1, h2⟩ := Option.map_eq_some_iff.1 hi
    simp only [Prod.mk.injEq] at h2
    rw [h1]; simp [h2]
  · have he : Ext H (upd H b (.cells #[u] e)) := Ext.upd hb _
    refine ⟨_, _, _, rfl, h_app (m := 1) (ys := [u]) ht hi (by rw [hz]; rfl) (by decide) (ho.ext he) ?_ (by simp) (by simpa using hu) (by simp) (by omega) hby (fun A' c' H' h1 h2 => ⟨_, _, _, rfl, h A' c' H' h1 (h2.trans_ext he)⟩)⟩
    refine .inr ⟨_, rfl, fun i w hw => ?_⟩
    match i, hw with
    | 0, hw =>
      cases hw
      show cellH _ ((⟨b, 0, none⟩ : Addr).add 0) = _
      simp [Addr.add, cellH, upd_self]
end
/-- F is known in H, and v's block is not in F. -/
structure Frz (F H : HH) (v : Value) : Prop where
  ext : Ext F H
  off : ∀ b, v.ownBlock = some b → F b = none
section
variable {F H H' : HH} {v v' : Value}
theorem Frz.nil (H : HH) : Frz H H (.slice none 0 0) := ⟨.refl H, fun b hb => by simp [Value.ownBlock] at hb⟩
theorem Frz.grow (h : Frz F H v) (g : Grows H H' v v') : Frz F H' v' :=
  ⟨fun b o hb => g.keep b o (fun e => by rw [h.off b e] at hb; cases hb) (h.ext b o hb), fun b hb => by
    rcases g.at_ with e | e
    · exact h.off b (e ▸ hb)
    · exact h.ext.none (e b hb)⟩
theorem Frz.more (h : Frz F H v) (he : Ext H H') : Frz F H' v := ⟨h.ext.trans he, h.off⟩
/-- A finished row joins what is frozen. -/
theorem freeze {base T n : Nat} {xs : List Value} {w : Value} (hw : Frz F H w) (hv : Frz F H v) (ho : Own base H T 1 v n xs) (hd : ∀ b, w.ownBlock = some b → v.ownBlock ≠ some b) :
    ∃ F', Ext F F' ∧ Frz F' H w ∧ ∃ A c, v = .slice A n c ∧ Rd F' A xs := by
  obtain ⟨h1, h2⟩ := ho
  rcases h2 with ⟨rfl, rfl⟩ | ⟨g, cap, cur, rfl, hb, hg, r1, r2, r3, r4⟩
  · exact ⟨F, .refl F, hw, none, 0, rfl, .inl (List.eq_nil_of_length_eq_zero (by rw [h1, Nat.zero_mul]))⟩
  · have hn : F g = none := hv.off g (by simp [Value.ownBlock])
    refine ⟨upd F g (.cells cur T (0, 0)), Ext.upd hn _, ⟨fun b o h => ?_, fun b h => ?_⟩, _, _, rfl, .inr ⟨_, rfl, fun i u hu => ?_⟩⟩
    · by_cases e : b = g
      · subst e; rw [upd_self] at h; cases h; exact hg
      · rw [upd_ne _ e] at h; exact hw.ext b o h
    · rw [upd_ne _ (fun e => by subst e; exact hd _ h (by simp [Value.ownBlock]))]; exact hw.off b h
    · have hadd : (⟨g, 0, none⟩ : Addr).add i = ⟨g, i, none⟩ := by unfold Addr.add; split <;> simp_all
      rw [hadd, cellH_blk (upd_self _ _ _), ← Array.getElem?_toList]
      rw [← r4, List.getElem?_take] at hu
      split at hu
      · exact hu
      · cases hu
end
end Go.Proofs.Ytbogcgkeabkliab.HL
end
section
set_option linter.unusedVariables false
set_option linter.unusedSimpArgs false
set_option linter.unusedSectionVars false
namespace Go.Proofs.Ytbogcgkeabkliab.HL
open Go Go.Proofs.YtbogcgkeabkliabNum Go.Proofs.Ytbogcgkeabkliab.FEv
theorem inf22 : (Try.prog.info? 22).map (fun i => (i.zero, i.size, i.bytes)) = some (some (.int .u64 0), 1, 8) := by kernel_rfl
theorem inf32 : (Try.prog.info? 32).map (fun i => (i.zero, i.size, i.bytes)) = some (some (.slice none 0 0), 1, 24) := by kernel_rfl
theorem inf3 : (Try.prog.info? 3).map (fun i => (i.zero, i.size, i.bytes)) = some (some (.int .i64 0), 1, 8) := by kernel_rfl
section
variable {p : Nat} [NeZero p]
def vs (l : List (Fin p)) : List Int := l.map V
def ms (m : List (List (Fin p))) : List (List Int) := m.map vs
@[simp] theorem vs_length (l : List (Fin p)) : (vs l).length = l.length := by simp [vs]
@[simp] theorem ms_length (m : List (List (Fin p))) : (ms m).length = m.length := by simp [ms]
theorem vs_get (l : List (Fin p)) (j : Nat) : (vs l).getD j 0 = V (cf l j) := by
  unfold vs cf
  rw [List.getD_eq_getElem?_getD, List.getD_eq_getElem?_getD, List.getElem?_map]
  cases l[j]? <;> rfl
theorem ms_get (m : List (List (Fin p))) (j : Nat) : (ms m).getD j [] = vs (rowL m j) := by
  unfold ms rowL
  rw [List.getD_eq_getElem?_getD, List.getD_eq_getElem?_getD, List.getElem?_map]
  cases m[j]? <;> rfl
theorem take_succ_map {α β : Type} (f : α → β) {l : List α} {j : Nat} (h : j < l.length) (d : α) : (l.take (j + 1)).map f = (l.take j).map f ++ [f (l.getD j d)] := by
  have : l.take (j + 1) = l.take j ++ [l.getD j d] := by
    rw [List.take_add_one, List.getElem?_eq_getElem h, List.getD_eq_getElem?_getD, List.getElem?_eq_getElem h]
    rfl
  rw [this, List.map_append]
  rfl
theorem us_snoc (l : List Int) (x : Int) : us (l ++ [x]) = us l ++ [.int .u64 x] := by simp [us]
theorem vs_snoc (l : List (Fin p)) (x : Fin p) : vs (l ++ [x]) = vs l ++ [V x] := by simp [vs]
def Sm (m : List (List (Fin p))) : Prop := m.length ≤ 1000 ∧ ∀ r ∈ m, r.length ≤ 1000
theorem Sm.sz {m : List (List (Fin p))} (h : Sm m) : Sz (ms m) := ⟨by rw [ms_length]; have := h.1; unfold maxLen; omega, fun r hr => by
  obtain ⟨a, ha, rfl⟩ := List.mem_map.1 hr
  have := h.2 a ha
  rw [vs_length]; unfold maxLen; omega⟩
theorem Sm.row {m : List (List (Fin p))} (h : Sm m) {j : Nat} (hj : j < m.length) : (rowL m j).length ≤ 1000 := h.2 _ (by rw [rowL_lt hj]; exact List.getElem_mem hj)
theorem rectB_ms {m : List (List (Fin p))} : rectB (ms m) = true ↔ ∀ r ∈ m, r.length = (rowL m 0).length := by
  unfold rectB
  rw [ms_get, vs_length, List.all_eq_true]
  unfold ms
  constructor
  · intro h r hr
    have := h (vs r) (List.mem_map_of_mem hr)
    simpa using this
  · rintro h x hx
    obtain ⟨r, hr, rfl⟩ := List.mem_map.1 hx
    simpa using h r hr
theorem colsN_ms (m : List (List (Fin p))) : colsN (ms m) = (rowL m 0).length := by unfold colsN; rw [ms_get, vs_length]
section
variable {base : Nat} {H : HH} {K : Value → HH → Prop} {A A' : Option Addr} {n n' c c' : Nat}
theorem rowL_mem {m : List (List (Fin p))} {j : Nat} (hj : j < m.length) : rowL m j ∈ m := by rw [rowL_lt hj]; exact List.getElem_mem hj
theorem Own.row {n : Nat} {l : List Int} (h : Own base H 22 1 (.slice A n c) n (us l)) : Row H A n l := by
  obtain ⟨A', c', e, _, h2⟩ := h.slice
  cases e
  exact ⟨by have := h.1; rw [us_length] at this; omega, h2⟩
end
end
end Go.Proofs.Ytbogcgkeabkliab.HL
end
section
set_option linter.unusedVariables false
set_option linter.unusedSimpArgs false
set_option linter.unusedSectionVars false
namespace Go.Proofs.Ytbogcgkeabkliab.HL
open Go Go.Proofs.YtbogcgkeabkliabNum Go.Proofs.Ytbogcgkeabkliab.FEv
section
variable {P : Program} {base : Nat} {H F : HH}
theorem Own.at {e n c : Nat} {A : Option Addr} {xs : List Value} (h : Own base H e 1 (.slice A n c) n xs) {j : Nat} (hj : j < n) : ∃ g cur, A = some ⟨g, 0, none⟩ ∧ base ≤ g ∧ H g = some (.cells cur e (0, 0)) ∧ j < cur.size ∧ ∀ (i : Nat) (u : Value), xs[i]? = some u → cur[i]? = some u := by
  obtain ⟨g, cap, cur, e1, e2, e3, e4, e5, e6⟩ := h.form (by omega)
  cases e1
  exact ⟨g, cur, rfl, e2, e3, by omega, e6⟩
theorem aq_own {t e : Nat} (ht : P.underlying t = some (.slice e)) (hs : (P.info? e).map (·.size) = some 1) {g n c : Nat} {k : IntKind} {j : Nat} (hj : j < n) : AQ P (Instr.indexAt t (.slice (some ⟨g, 0, none⟩) n c) (.int k j)) (.pointer (some ⟨g, j, none⟩)) := by
  have := aq_ix (ad := ⟨g, 0, none⟩) (c := c) (k := k) ht hs (i := j) (by omega) (n := n) (by omega)
  have e : (⟨g, 0, none⟩ : Addr).add ((j : Int).toNat * 1) = ⟨g, j, none⟩ := by rw [Int.toNat_natCast, Nat.mul_one]; unfold Addr.add; split <;> simp_all
  rwa [e] at this
theorem Frz.upd {v : Value} (h : Frz F H v) {g : Nat} (hg : F g = none) (o : Obj) : Frz F (upd H g o) v :=
  ⟨fun b x hx => by rw [upd_ne _ (fun e => by rw [e, hg] at hx; cases hx)]; exact h.ext b x hx, h.off⟩
end
/-- A matrix of the call's own, its rows frozen in F. -/
def OwnM (base : Nat) (F H : HH) (v : Value) (n : Nat) (m : List (List Int)) : Prop :=
  ∃ rs : List Value, Own base H 32 1 v n rs ∧ Frz F H v ∧ rs.length = m.length ∧ ∀ (i : Nat) (l : List Int), m[i]? = some l → ∃ A' c, rs[i]? = some (.slice A' l.length c) ∧ Rd F A' (us l)
section
variable {base : Nat} {H F : HH} {A : Option Addr} {n c : Nat} {m : List (List Int)}
theorem OwnM.mat (h : OwnM base F H (.slice A n c) n m) : Mat H A n m := by
  obtain ⟨rs, h1, h2, h3, h4⟩ := h
  obtain ⟨A', c', e, _, h5⟩ := h1.slice
  cases e
  refine ⟨by have := h1.1; omega, rs, h3, h5, fun i l hl => ?_⟩
  obtain ⟨A1, c1, h6, h7⟩ := h4 i l hl
  exact ⟨A1, c1, h6, h7.ext h2.ext⟩
theorem OwnM.nil (base : Nat) (H : HH) : OwnM base H H (.slice none 0 0) 0 [] := ⟨[], Own.nil _ _ _ _, Frz.nil _, rfl, fun i l h => by simp at h⟩
theorem OwnM.froze {F' : HH} {v : Value} (h : OwnM base F H v n m) (he : Ext F F') (hf : Frz F' H v) : OwnM base F' H v n m := by
  obtain ⟨rs, h1, h2, h3, h4⟩ := h
  exact ⟨rs, h1, hf, h3, fun i l hl => by obtain ⟨A1, c1, h6, h7⟩ := h4 i l hl; exact ⟨A1, c1, h6, h7.ext he⟩⟩
/-- A row that is frozen is pushed. -/
theorem h_pushM {K : Option Addr → Nat → Nat → HH → Prop} {v : Value} (h : OwnM base F H v n m) (hlim : n ≤ 1000) {A1 : Option Addr} {n1 c1 : Nat} {l : List Int} (hr : Row F A1 n1 l)
    (hk : ∀ A' c' H', OwnM base F H' (.slice A' (n + 1) c') (n + 1) (m ++ [l]) → Grows H H' v (.slice A' (n + 1) c') → K A' (n + 1) c' H') {ty : Nat} :
    HRun Try.prog base (Instr.buildSlice 23 1 #[(0, .slice A1 n1 c1)]) H fun v1 H1 => ∃ (A : Option Addr) (l c : Nat), v1 = .slice A l c ∧ HRun Try.prog base (Builtin.append_ #[23, 23] ty #[v, .slice A l c]) H1 fun v2 H2 => ∃ (A' : Option Addr) (l' c' : Nat), v2 = .slice A' l' c' ∧ K A' l' c' H2 := by
  obtain ⟨rs, h1, h2, h3, h4⟩ := h
  refine h_push un23 inf32 rfl (by decide) rfl h1 (by omega) (fun A3 c3 H3 ho3 g3 => hk _ _ _ ⟨_, ho3, h2.grow g3, by simp [h3], fun i l' hl => ?_⟩ g3)
  rcases Nat.lt_or_ge i m.length with hi | hi
  · rw [List.getElem?_append_left hi] at hl
    obtain ⟨A4, c4, h6, h7⟩ := h4 i l' hl
    exact ⟨A4, c4, by rw [List.getElem?_append_left (by omega)]; exact h6, h7⟩
  · have hi' : i = m.length := by
      have := (List.getElem?_eq_some_iff.1 hl).1
      rw [List.length_append, List.length_singleton] at this
      omega
    subst hi'
    rw [List.getElem?_append_right (Nat.le_refl _)] at hl
    simp at hl
    subst hl
    refine ⟨A1, c1, ?_, hr.2⟩
    rw [← h3, List.getElem?_append_right (Nat.le_refl _)]
    simp [hr.1]
end
section
variable {p : Nat} [NeZero p]
def rmul (r : List (Fin p)) (b : List (List (Fin p))) : List (Fin p) := (List.range (rowL b 0).length).map fun k => sumF r.length fun i => cf r i * en b i k
def mulL (a b : List (List (Fin p))) : List (List (Fin p)) := a.map fun r => rmul r b
end
end Go.Proofs.Ytbogcgkeabkliab.HL
end
section
set_option linter.unusedVariables false
set_option linter.unusedSimpArgs false
set_option linter.unusedSectionVars false
namespace Go.Proofs.Ytbogcgkeabkliab.HL
open Go Go.Proofs.YtbogcgkeabkliabNum Go.Proofs.Ytbogcgkeabkliab.FEv
theorem made1 (z : Value) (q : Nat) : madeCells #[z] q = Array.replicate q z := by
  apply Array.ext'
  rw [madeCells, Array.toList_map, Array.toList_range, Array.toList_replicate]
  apply List.ext_getElem?
  intro i
  rw [List.getElem?_map, List.getElem?_replicate]
  by_cases hi : i < q
  · rw [List.getElem?_eq_getElem (by simpa using hi), if_pos hi]
    simp [Nat.mod_one]
  · rw [List.getElem?_eq_none (by simpa using hi), if_neg hi]; rfl
theorem OwnM.more {base : Nat} {F H H' : HH} {v : Value} {n : Nat} {m : List (List Int)} (h : OwnM base F H v n m) (he : Ext H H') : OwnM base F H' v n m := by
  obtain ⟨rs, h1, h2, h3, h4⟩ := h
  exact ⟨rs, h1.ext he, h2.more he, h3, h4⟩
theorem OwnM.known {base : Nat} {F H : HH} {v : Value} {n : Nat} {m : List (List Int)} (h : OwnM base F H v n m) {b : Nat} (hb : v.ownBlock = some b) : H b ≠ none := by
  obtain ⟨rs, h1, h2, h3, h4⟩ := h
  obtain ⟨_, cur, hc⟩ := h1.known hb
  rw [hc]; simp
theorem OwnM.frz {base : Nat} {F H : HH} {v : Value} {n : Nat} {m : List (List Int)} (h : OwnM base F H v n m) : Frz F H v := h.elim fun _ h => h.2.1
/-- A row built since H: it is frozen, and pushed onto the matrix. -/
theorem h_pushR2 {base : Nat} {F H H2 : HH} {v : Value} {n : Nat} {m : List (List Int)} (h : OwnM base F H v n m) (hlim : n ≤ 1000) {A1 : Option Addr} {n1 c1 : Nat} {l : List Int} (hf : Frz H H2 (.slice A1 n1 c1)) (hr : Own base H2 22 1 (.slice A1 n1 c1) n1 (us l))
    {K : Option Addr → Nat → Nat → HH → Prop} (hk : ∀ F' A' c' H', Ext F F' → OwnM base F' H' (.slice A' (n + 1) c') (n + 1) (m ++ [l]) → K A' (n + 1) c' H') {ty : Nat} :
    HRun Try.prog base (Instr.buildSlice 23 1 #[(0, .slice A1 n1 c1)]) H2 fun v1 H1 => ∃ (A : Option Addr) (l c : Nat), v1 = .slice A l c ∧ HRun Try.prog base (Builtin.append_ #[23, 23] ty #[v, .slice A l c]) H1 fun v2 H2 => ∃ (A' : Option Addr) (l' c' : Nat), v2 = .slice A' l' c' ∧ K A' l' c' H2 := by
  have h2 := h.more hf.ext
  obtain ⟨F', hFF, hfz', A4, c4, e4, hrd⟩ := freeze h2.frz (Frz.mk (h.frz.ext.trans hf.ext) (fun b hb => h.frz.ext.none (hf.off b hb))) hr (fun b hb hb' => h.known hb (hf.off b hb'))
  cases e4
  have e := hr.1
  rw [us_length] at e
  exact h_pushM (h2.froze hFF hfz') hlim ⟨by omega, hrd⟩ (fun A' c' H' h3 _ => hk F' A' c' H' hFF h3)
section
variable {p : Nat} [NeZero p] {base : Nat} {H : HH} {K : Value → HH → Prop} {A A' : Option Addr} {n n' c c' : Nat}
theorem rmul_length (r : List (Fin p)) (b : List (List (Fin p))) : (rmul r b).length = (rowL b 0).length := by simp [rmul]
theorem ms_snoc (m : List (List (Fin p))) (r : List (Fin p)) : ms (m ++ [r]) = ms m ++ [vs r] := by simp [ms]
theorem Sm.cols {m : List (List (Fin p))} (h : Sm m) : (rowL m 0).length ≤ 1000 := by
  rcases Nat.eq_zero_or_pos m.length with e | e
  · have : m = [] := List.eq_nil_of_length_eq_zero e
    subst this
    simp [rowL]
  · exact h.row e
/-- What a product asks of its factors. -/
def fits (a b : List (List (Fin p))) : Prop := (∀ r ∈ a, r.length = (rowL a 0).length) ∧ (∀ r ∈ b, r.length = (rowL b 0).length) ∧ (rowL a 0).length = b.length
end
end Go.Proofs.Ytbogcgkeabkliab.HL
end
section
set_option linter.unusedVariables false
set_option linter.unusedSimpArgs false
set_option linter.unusedSectionVars false
namespace Go.Proofs.Ytbogcgkeabkliab.HL
open Go Go.Proofs.YtbogcgkeabkliabNum Go.Proofs.Ytbogcgkeabkliab.FEv
theorem QRun.ext {α : Type} {P : Program} {s : Sem α} {H H' : HH} {v : α} (h : QRun P s H v) (he : Ext H H') : QRun P s H' v := fun W hs => h W (fun b o hb => hs b o (he b o hb))
theorem add0 (g j : Nat) : (⟨g, 0, none⟩ : Addr).add j = ⟨g, j, none⟩ := by unfold Addr.add; split <;> simp_all
theorem set_range {α : Type} {q i : Nat} (f g : Nat → α) (hi : i < q) (x : α) (hx : g i = x) (hg : ∀ k, k < q → k ≠ i → g k = f k) : ((List.range q).map f).set i x = (List.range q).map g := by
  apply List.ext_getElem?
  intro k
  rw [List.getElem?_set, List.getElem?_map, List.getElem?_map, List.length_map, List.length_range]
  by_cases hk : k < q
  · rw [List.getElem?_range hk]
    by_cases e : i = k
    · subst e; rw [if_pos rfl, if_pos hi]; simp [hx]
    · rw [if_neg e]; simp [hg k hk (fun h => e h.symm)]
  · rw [List.getElem?_eq_none (by simpa using hk)]
    split
    · omega
    · rfl
section
variable {p : Nat} [NeZero p] {base : Nat} {H : HH} {K : Value → HH → Prop} {A A' : Option Addr} {n n' c c' : Nat}
/-- The line after j rounds, and i steps of the next. -/
def lineL (r : List (Fin p)) (b : List (List (Fin p))) (q j i : Nat) : List (Fin p) := (List.range q).map fun x => sumF (if x < i then j + 1 else j) fun t => cf r t * en b t x
theorem lineL_length (r : List (Fin p)) (b : List (List (Fin p))) (q j i : Nat) : (lineL r b q j i).length = q := by simp [lineL]
theorem lineL_full (r : List (Fin p)) (b : List (List (Fin p))) (q j : Nat) : lineL r b q j q = lineL r b q (j + 1) 0 := by
  unfold lineL
  apply List.map_congr_left
  intro x hx
  rw [if_pos (List.mem_range.1 hx), if_neg (Nat.not_lt_zero _)]
theorem us_set (l : List Int) (i : Nat) (x : Int) : (us l).set i (.int .u64 x) = us (l.set i x) := by simp [us, List.map_set]
theorem vs_set (l : List (Fin p)) (i : Nat) (x : Fin p) : (vs l).set i (V x) = vs (l.set i x) := by simp [vs, List.map_set]
theorem h_mulm (hp : Sup p) {a b : List (List (Fin p))} (h : Mat H A n (ms a)) (h' : Mat H A' n' (ms b)) (hz : Sm a) (hz' : Sm b)
    (hk1 : ¬ fits a b → K (.tuple #[.slice none 0 0, .int .i64 1]) H)
    (hk2 : fits a b → ∀ A1 c1 H', Ext H H' → Mat H' A1 a.length (ms (mulL a b)) → K (.tuple #[.slice A1 a.length c1, .int .i64 0]) H') : HCall Try.prog base 25 #[.int .u64 p, .slice A n c, .slice A' n' c'] H K := by
  refine matrix_Mul.spec ?_
  unfold matrix_Mul.sh
  have e1 := h.1
  have e2 := h'.1
  rw [ms_length] at e1 e2
  refine h_rect h hz.sz ⟨_, rfl, ?_⟩
  split
  · rename_i e
    have e : rectB (ms a) = true := by simpa using e
    refine h_rect h' hz'.sz ⟨_, rfl, ?_⟩
    split
    · rename_i e'
      have e' : rectB (ms b) = true := by simpa using e'
      refine h_cols h ⟨_, rfl, ?_⟩
      rw [colsN_ms]
      split
      · rename_i e3
        exact hk1 (fun h => by have := h.2.2; simp at e3; omega)
      · rename_i e3
        have e3 : (rowL a 0).length = b.length := by simp at e3; omega
        have ha := rectB_ms.1 e
        have hb := rectB_ms.1 e'
        have hq := hz'.cols
        refine matrix_Mul.loop0 (fun kk A1 l1 c1 y H' => ∃ i : Nat, y = i ∧ i ≤ n ∧ kk = n - i ∧ l1 = i ∧ ∃ F, Ext H F ∧ OwnM base F H' (.slice A1 i c1) i (ms ((a.take i).map fun r => rmul r b))) n ⟨0, rfl, Nat.zero_le _, by omega, rfl, H, .refl _, OwnM.nil _ _⟩ ?_
        rintro kk A1 l1 c1 y g H1 ⟨i, rfl, hi, hkk, rfl, F, hF, ho⟩
        unfold matrix_Mul.B0
        split
        · rename_i e5
          have e5 := of_decide_eq_true e5
          have hia : l1 < a.length := by omega
          have hE1 : Ext H H1 := hF.trans ho.frz.ext
          obtain ⟨a1, q1, A3, c3, q2, q3⟩ := (h.ext hE1).at c (i := l1) (by omega) e5
          rw [Int.toNat_natCast, ms_get] at q2 q3
          have hl1 : (rowL a l1).length = b.length := (ha _ (rowL_mem hia)).trans e3
          refine ⟨a1, q1, _, _, _, q2, h_cols (h'.ext hE1) ⟨_, rfl, ?_⟩⟩
          rw [colsN_ms]
          generalize hq' : (rowL b 0).length = q at *
          refine h_make un32 inf22 (by omega) (by omega) (by omega) (fun gb hgb hbase => ⟨_, _, _, rfl, ?_⟩)
          rw [Int.toNat_natCast, Nat.mul_one, show (Value.int IntKind.u64 0).cells = #[.int .u64 0] from rfl, made1]
          have hc0 : Array.replicate q (Value.int .u64 0) = (us (vs (lineL (rowL a l1) b q 0 0))).toArray := by
            apply Array.ext'
            rw [Array.toList_replicate]
            unfold us vs lineL
            rw [List.map_map, List.map_map]
            apply List.ext_getElem?
            intro i
            rw [List.getElem?_replicate, List.getElem?_map]
            by_cases hi : i < q
            · rw [if_pos hi, List.getElem?_range hi]; simp [sumF, V]
            · rw [if_neg hi, List.getElem?_eq_none (by simpa using hi)]; rfl
          rw [hc0]
          have hO0 := Own.lit (H := H1) (T := 22) (sz := 1) hbase (us (vs (lineL (rowL a l1) b q 0 0))).toArray q (by unfold maxLen; omega) (by simp [lineL_length])
          have hsz : (rowL a l1).length ≤ 1000 := hz.row hia
          refine matrix_Mul.loop1 (fun k1 y H' => ∃ j : Nat, y = j ∧ j ≤ b.length ∧ k1 = b.length - j ∧ Frz H1 H' (.slice (some ⟨gb, 0, none⟩) q q) ∧ Own base H' 22 1 (.slice (some ⟨gb, 0, none⟩) q q) q (us (vs (lineL (rowL a l1) b q j 0)))) b.length
            ⟨0, rfl, Nat.zero_le _, by omega, ⟨Ext.upd hgb _, fun b' hb' => by
              have e : gb = b' := by simpa [Value.ownBlock] using hb'
              rw [← e]; exact hgb⟩, hO0⟩ ?_
          rintro k1 y g H2 ⟨j, rfl, hj, hk1', hf2, ho2⟩
          unfold matrix_Mul.B1
          split
          · rename_i e6
            have e6 := of_decide_eq_true e6
            have hjb : j < b.length := by rw [vs_length, hl1] at e6; omega
            obtain ⟨a2, p1, p2⟩ := (q3.ext hf2.ext).at c3 (i := j) (by omega) (by rw [vs_length, hl1]; omega)
            rw [Int.toNat_natCast, vs_get] at p2
            obtain ⟨a3, r1, A4, c4, r2, r3⟩ := (h'.ext hE1).at c' (i := j) (by omega) (by omega)
            rw [Int.toNat_natCast, ms_get] at r2 r3
            have hlb : (rowL b j).length = q := hb _ (rowL_mem hjb)
            refine ⟨a2, p1, _, p2, a3, r1, _, _, _, r2.ext hf2.ext, ?_⟩
            refine matrix_Mul.loop2 (fun k2 y H' => ∃ i : Nat, y = i ∧ i ≤ q ∧ k2 = q - i ∧ Frz H1 H' (.slice (some ⟨gb, 0, none⟩) q q) ∧ Own base H' 22 1 (.slice (some ⟨gb, 0, none⟩) q q) q (us (vs (lineL (rowL a l1) b q j i)))) q ⟨0, rfl, Nat.zero_le _, by omega, hf2, ho2⟩ ?_
            rintro k2 y g H3 ⟨i, rfl, hi, hk2', hf3, ho3⟩
            unfold matrix_Mul.B2
            split
            · rename_i e7
              have e7 := of_decide_eq_true e7
              have hiq : i < q := by rw [vs_length, hlb] at e7; omega
              have r4 := r3.ext hf3.ext
              obtain ⟨a4, s1, s2⟩ := r4.at c4 (i := i) (by omega) e7
              rw [Int.toNat_natCast, vs_get] at s2
              obtain ⟨g1, cur, eA, hgb1, hcur, hic, hget⟩ := ho3.at hiq
              cases eA
              have hci : cur[i]? = some (.int .u64 (V (sumF j fun t => cf (rowL a l1) t * en b t i))) := hget i _ (by
                unfold us vs lineL
                rw [List.getElem?_map, List.getElem?_map, List.getElem?_map, List.getElem?_range hiq]
                simp)
              refine ⟨a4, s1, _, s2, _, aq_own un32 info22 hiq, _, q_ld sc22 (by rw [cellH_blk hcur]; exact hci), _, h_mul hp _ _ ⟨rfl, rfl⟩, _, h_add hp _ _ ⟨rfl, rfl⟩, _, aq_own un32 info22 hiq, ?_⟩
              refine h_st info22 rfl hcur hgb1 hic ?_
              have hn : H1 gb = none := hf3.off gb (by simp [Value.ownBlock])
              refine ⟨k2 - 1, by omega, _, rfl, i + 1, nxt (n := q) (by omega) (by unfold maxLen; omega), by omega, by omega, hf3.upd hn _, ?_⟩
              have := ho3.put (g := gb) (by simp [Value.ownBlock]) hcur i (.int .u64 (V ((sumF j fun t => cf (rowL a l1) t * en b t i) + cf (rowL a l1) j * cf (rowL b j) i)))
              rw [us_set, vs_set] at this
              have e8 : (lineL (rowL a l1) b q j i).set i ((sumF j fun t => cf (rowL a l1) t * en b t i) + cf (rowL a l1) j * cf (rowL b j) i) = lineL (rowL a l1) b q j (i + 1) := by
                unfold lineL
                refine set_range _ _ hiq _ (by rw [if_pos (by omega)]; rfl) (fun k _ hk => ?_)
                by_cases h1 : k < i
                · rw [if_pos h1, if_pos (by omega)]
                · rw [if_neg h1, if_neg (by omega)]
              rwa [e8] at this
            · rename_i e7
              have e7 : ¬ ((i : Int) < _) := fun h => e7 (decide_eq_true h)
              have : i = q := by rw [vs_length, hlb] at e7; omega
              subst this
              rw [lineL_full] at ho3
              exact ⟨k1 - 1, by omega, _, rfl, j + 1, nxt (n := b.length) (by omega) (by have := hz'.1; unfold maxLen; omega), by omega, by omega, hf3, ho3⟩
          · rename_i e6
            have e6 : ¬ ((j : Int) < _) := fun h => e6 (decide_eq_true h)
            have : j = b.length := by rw [vs_length, hl1] at e6; omega
            subst this
            have e9 : lineL (rowL a l1) b q b.length 0 = rmul (rowL a l1) b := by
              unfold lineL rmul
              rw [hq', hl1]
              apply List.map_congr_left
              intro x _
              rw [if_neg (Nat.not_lt_zero _)]
            rw [e9] at ho2
            refine h_pushR2 ho (by have := hz.1; omega) hf2 ho2 (fun F' A5 c5 H3 hF' ho3 => ?_)
            refine ⟨kk - 1, by omega, _, _, _, _, rfl, rfl, l1 + 1, nxt (n := n) (by omega) (by have := hz.1; unfold maxLen; omega), by omega, by omega, rfl, F', hF.trans hF', ?_⟩
            rw [take_succ_map _ (d := []) hia, ms_snoc]
            exact ho3
        · rename_i e5
          have e5 : ¬ ((l1 : Int) < (n : Int)) := fun h => e5 (decide_eq_true h)
          have : l1 = a.length := by omega
          subst this
          rw [List.take_of_length_le (Nat.le_refl _)] at ho
          exact hk2 ⟨ha, hb, e3⟩ _ _ _ (hF.trans ho.frz.ext) ho.mat
    · rename_i e'
      exact hk1 (fun h => by rw [rectB_ms.2 h.2.1] at e'; simp at e')
  · rename_i e
    exact hk1 (fun h => by rw [rectB_ms.2 h.1] at e; simp at e)
end
end Go.Proofs.Ytbogcgkeabkliab.HL
end

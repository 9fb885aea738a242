/- Part H of: The statement ReedsolomonLinear: the law answers true whatever its arguments; no condition. -/
import Derived.Test.YtbogcgkeabkliacZReedsolomonLinearG
import Derived.Below
import Derived.KernelRfl
import Derived.Test.YtbogcgkeabkliacProg
import Derived.ProofKit
import Derived.OpenShut
import Derived.ChangeOld
section
set_option linter.unusedVariables false
namespace Go.Proofs.Ytbogcgkeabkliac.HL
open Go Go.RowKit
theorem addr_add (a : Addr) (m n : Nat) : (a.add m).add n = a.add (m + n) := by
  unfold Addr.add
  by_cases hm : m = 0 <;> by_cases hn : n = 0 <;> simp_all [Nat.add_assoc]
/-- All of the heap is known. -/
def hp (W : World) : HH := fun b => W.heap[b]?
theorem hp_sat (W : World) : Sat (hp W) W := fun _ _ h => h
theorem hp_cell {W : World} {a : Addr} {v : Value} (h : W.cell? a = some v) : cellH (hp W) a = some v := h
theorem HCall.calls {P : Program} {f : FuncId} {args : Array Value} {W : World} (h : HCall P W.heap.size f args (hp W) fun v _ => v = .bool true) : Calls P f args W fun e w' => e = .returned (.bool true) ∧ Below W.heap.size W w' :=
  (h.run W (hp_sat W) (Nat.le_refl _)).mono fun e W' ⟨v, H', he, hv, hto⟩ => ⟨by rw [he, hv], hto.os, hto.tape, hto.output, hto.size, fun k hk => by
    by_cases e : k < W.heap.size
    · exact hto.block k e (.inl hk)
    · omega⟩
/-- What cells say of a value. -/
abbrev Rel (α : Type) := HH → α → List Value → Prop
def rInt (k : IntKind) : Rel Int := fun _ n cs => cs = [.int k n]
def rBool : Rel Bool := fun _ b cs => cs = [.bool b]
def rSlice {α : Type} (sz : Nat) (r : Rel α) : Rel (List α) := fun H l cs => ∃ A c, cs = [.slice A l.length c] ∧ l.length ≤ c ∧ (l = [] ∨ ∃ ad, A = some ad ∧ ∀ (i : Nat) (a : α), l[i]? = some a → ∃ cs', cs'.length = sz ∧ r H a cs' ∧ ∀ (j : Nat) (u : Value), cs'[j]? = some u → cellH H (ad.add (i * sz + j)) = some u)
def rPair {α β : Type} (r : Rel α) (q : Rel β) : Rel (α × β) := fun H x cs => ∃ a b, cs = a ++ b ∧ r H x.1 a ∧ q H x.2 b
def Opn (P : Program) {α : Type} (r : Rel α) (t : TypeId) (wf : α → Prop) : Prop :=
  ∀ (D : Type) (enc : TypeId × Value → D) (W : World) (fuel : Nat) (cs : List Value) (x : DataW D × List MemPlace), DataW.trod enc P W 0 (fun _ => true) true fuel t cs = some x → ∃ a, r (hp W) a cs ∧ wf a
section
variable {P : Program} {t e : TypeId}
theorem Opn.int {k : IntKind} (ht : P.underlying t = some (.int k)) : Opn P (rInt k) t (fun n => (Lit.int k n).wf = true) := by
  intro D enc W fuel cs x h
  obtain ⟨n, rfl, _, hn⟩ := DataW.trod_int ht h
  exact ⟨n, rfl, hn⟩
theorem Opn.bool (ht : P.underlying t = some .bool) : Opn P rBool t (fun _ => True) := by
  intro D enc W fuel cs x h
  obtain ⟨b, rfl, _⟩ := DataW.trod_bool ht h
  exact ⟨b, rfl, trivial⟩
theorem chosen {α : Type} {n : Nat} {p : Nat → α → Prop} (h : ∀ i, i < n → ∃ a, p i a) : ∃ l : List α, l.length = n ∧ ∀ i a, l[i]? = some a → p i a := by
  induction n with
  | zero => exact ⟨[], rfl, fun i a h => by simp at h⟩
  | succ n ih =>
    obtain ⟨l, hl, hp⟩ := ih (fun i hi => h i (by omega))
    obtain ⟨a, ha⟩ := h n (by omega)
    refine ⟨l ++ [a], by simp [hl], fun i b hb => ?_⟩
    rcases Nat.lt_or_ge i l.length with hi | hi
    · rw [List.getElem?_append_left hi] at hb
      exact hp i b hb
    · have hi' : i = l.length := by
        have := (List.getElem?_eq_some_iff.1 hb).1
        rw [List.length_append, List.length_singleton] at this
        omega
      subst hi'
      have : a = b := by simpa using hb
      subst this
      rw [hl]
      exact ha
theorem cells_of {w : World} {a : Addr} {n : Nat} {c : List Value} (h : w.cells? 0 a n = some c) : c.length = n ∧ ∀ i u, c[i]? = some u → w.cell? (a.add i) = some u := by
  unfold World.cells? at h
  rw [if_pos (Nat.zero_le _)] at h
  have hl := mapM_some_length h
  rw [List.length_range] at hl
  refine ⟨hl, fun i u hu => ?_⟩
  have hi : i < n := by rw [← hl]; exact (List.getElem?_eq_some_iff.1 hu).1
  have := mapM_some_get h i i (by simp [hi])
  rw [this, hu]
theorem Opn.slice {α : Type} {r : Rel α} {sz : Nat} {wf : α → Prop} (ht : P.underlying t = some (.slice e)) (hc : P.cellsOf e = sz) (he : Opn P r e wf) : Opn P (rSlice sz r) t (fun l => l.length ≤ maxLen ∧ ∀ a ∈ l, wf a) := by
  intro D enc W fuel cs x h
  rcases DataW.trod_slice ht h with ⟨rfl, _⟩ | ⟨a, len, cap, elems, rest, n, _, rfl, _, _, hl, hm, hlen, hel, _⟩
  · exact ⟨[], ⟨none, 0, rfl, Nat.le_refl _, .inl rfl⟩, by simp, fun a ha => by cases ha⟩
  · have each : ∀ i, i < len → ∃ b, ∃ c : List Value, c.length = sz ∧ r (hp W) b c ∧ wf b ∧ ∀ (j : Nat) u, c[j]? = some u → W.cell? (a.add (i * sz + j)) = some u := by
      intro i hi
      have h1 := hel i hi
      rw [hc] at h1
      rw [List.getElem?_eq_getElem (by omega)] at h1
      obtain ⟨c, hcc, hy⟩ := Option.bind_eq_some_iff.1 h1
      obtain ⟨b, hb, hwb⟩ := he D enc W n c _ hy
      obtain ⟨h3, h4⟩ := cells_of hcc
      refine ⟨b, c, h3, hb, hwb, fun j u hu => ?_⟩
      rw [← addr_add]
      exact h4 j u hu
    obtain ⟨l, hll, hp'⟩ := chosen each
    refine ⟨l, ⟨some a, cap, by rw [hll], by omega, .inr ⟨a, rfl, fun i b hb => ?_⟩⟩, by rw [hll]; have : maxLen = 9223372036854775807 := rfl; omega, fun b hb => ?_⟩
    · obtain ⟨c, h1, h2, _, h4⟩ := hp' i b hb
      exact ⟨c, h1, h2, fun j u hu => hp_cell (h4 j u hu)⟩
    · obtain ⟨i, hi, rfl⟩ := List.getElem_of_mem hb
      obtain ⟨_, _, _, h3, _⟩ := hp' i _ (List.getElem?_eq_getElem hi)
      exact h3
/-- The fields of a struct, one by one: what is left from cell 'off' on. -/
theorem pairR {α β : Type} {r : Rel α} {q : Rel β} {H : HH} {x : α} {y : β} {cs : List Value} {off s : Nat} (h0 : r H x ((cs.drop off).take s)) (h1 : q H y (cs.drop (off + s))) : rPair r q H (x, y) (cs.drop off) :=
  ⟨_, _, (List.take_append_drop s _).symm, h0, by rw [List.drop_drop]; exact h1⟩
theorem lastR {α : Type} {r : Rel α} {H : HH} {x : α} {cs : List Value} {off s : Nat} (hl : cs.length = off + s) (h0 : r H x ((cs.drop off).take s)) : r H x (cs.drop off) := by
  rw [List.take_of_length_le (by rw [List.length_drop]; omega)] at h0
  exact h0
theorem fieldAt {D : Type} {enc : TypeId × Value → D} {W : World} {fs : Array Field} {cs : List Value} {n : Nat} {xs : List (DataW D × List MemPlace)} (hx : xs.length = fs.size)
    (hf : ∀ (i : Nat) (f : Field), fs[i]? = some f → DataW.trod enc P W 0 (fun _ => true) true n f.type ((cs.drop f.offset).take (P.cellsOf f.type)) = xs[i]?)
    {α : Type} {r : Rel α} {wf : α → Prop} (i : Nat) (f : Field) (hi : fs[i]? = some f) {T : TypeId} (hT : f.type = T) (ho : Opn P r T wf) (off s : Nat) (h1 : f.offset = off) (h2 : P.cellsOf T = s) : ∃ a, r (hp W) a ((cs.drop off).take s) ∧ wf a := by
  subst hT
  have h := hf i f hi
  have hlt : i < xs.length := by rw [hx]; exact (Array.getElem?_eq_some_iff.1 hi).1
  rw [List.getElem?_eq_getElem hlt, h1, h2] at h
  exact ho D enc W n _ _ h
end
end Go.Proofs.Ytbogcgkeabkliac.HL
end
section
set_option linter.unusedVariables false
set_option linter.unusedSimpArgs false
set_option maxRecDepth 100000
namespace Go.Proofs.Ytbogcgkeabkliac.HL
open Go
theorem mix : Try.prog.follows .mixedOrders = true := by kernel_rfl
def matrix_rect_1.ann : Ann := ⟨fun k => [], fun k => false, fun k => []⟩
def matrix_rect_1.sh (base : Nat) (Ax0 : Option Addr) (lx0 cx0 : Nat) (x1 : Addr) (H0 : HH) (K : Value → HH → Prop) : Prop :=
 ∃ (A1 : Option Addr) (l1 c1 : Nat), QRun Try.prog (Instr.loadAt 67 (.pointer ((some x1)))) H0 (.slice A1 l1 c1) ∧
 ∃ a2 : Addr, AQ Try.prog (Instr.indexAt 67 (.slice A1 l1 c1) (.int .i64 0)) (.pointer ((some a2))) ∧
 ∃ (A3 : Option Addr) (l3 c3 : Nat), QRun Try.prog (Instr.loadAt 30 (.pointer ((some a2)))) H0 (.slice A3 l3 c3) ∧
 K (.bool (((((lx0 : Nat) : Int) : Int) != (((l3 : Nat) : Int))))) H0
theorem matrix_rect_1.spec {base : Nat} {Ax0 : Option Addr} {lx0 cx0 : Nat} {x1 : Addr} {H0 : HH} {K : Value → HH → Prop} (h : matrix_rect_1.sh base Ax0 lx0 cx0 x1 H0 K) : HCall Try.prog base 51 #[(.slice Ax0 lx0 cx0), (.pointer ((some x1)))] H0 K := spec_of_wpC (n := 11) (ann := matrix_rect_1.ann) mix Try.func51 (by kernel_rfl) (cast (show matrix_rect_1.sh base Ax0 lx0 cx0 x1 H0 K = wpC Try.prog base 11 matrix_rect_1.ann (bodyOf Try.f51) (ofL [(.slice Ax0 lx0 cx0), (.pointer ((some x1)))]) H0 (retQ Try.prog 11 Try.f51 K) by kernel_rfl) h)
def slices_IndexFunc_LLuint64_Luint64.ann : Ann := ⟨fun k => [], fun k => false, fun k => bif Nat.beq k 2 then [0, 1, 7, 8] else []⟩
def slices_IndexFunc_LLuint64_Luint64.P0 (base : Nat) (l : List Value) (H0 : HH) (K : Value → HH → Prop) : Prop := HCodeL Try.prog base 19 (codeAt [.r, .l, .r, .b] (bodyOf Try.f54)) [0, 1, 7, 8] l H0 (qAt Try.prog base 19 slices_IndexFunc_LLuint64_Luint64.ann [.r, .l, .r, .b] [] (bodyOf Try.f54) (retQ Try.prog 19 Try.f54 K))
def slices_IndexFunc_LLuint64_Luint64.sh (base : Nat) (Ax0 : Option Addr) (lx0 cx0 : Nat) (x1_0 : Addr) (H0 : HH) (K : Value → HH → Prop) : Prop :=
 slices_IndexFunc_LLuint64_Luint64.P0 base [(.slice Ax0 lx0 cx0), (.func (.func 51) #[] #[(.pointer ((some x1_0)))]), (.int .i64 (((lx0 : Nat) : Int))), (.int .i64 0)] H0 K
theorem slices_IndexFunc_LLuint64_Luint64.spec {base : Nat} {Ax0 : Option Addr} {lx0 cx0 : Nat} {x1_0 : Addr} {H0 : HH} {K : Value → HH → Prop} (h : slices_IndexFunc_LLuint64_Luint64.sh base Ax0 lx0 cx0 x1_0 H0 K) : HCall Try.prog base 54 #[(.slice Ax0 lx0 cx0), (.func (.func 51) #[] #[(.pointer ((some x1_0)))])] H0 K := spec_of_wpC (n := 19) (ann := slices_IndexFunc_LLuint64_Luint64.ann) mix Try.func54 (by kernel_rfl) (cast (show slices_IndexFunc_LLuint64_Luint64.sh base Ax0 lx0 cx0 x1_0 H0 K = wpC Try.prog base 19 slices_IndexFunc_LLuint64_Luint64.ann (bodyOf Try.f54) (ofL [(.slice Ax0 lx0 cx0), (.func (.func 51) #[] #[(.pointer ((some x1_0)))])]) H0 (retQ Try.prog 19 Try.f54 K) by kernel_rfl) h)
def slices_IndexFunc_LLuint64_Luint64.B0 (base : Nat) (Ax0 : Option Addr) (lx0 cx0 : Nat) (x1_0 : Addr) (x7 : Int) (y8 : Int) (g : Fr) (N0 : Value → HH → Prop) (H0 : HH) (K : Value → HH → Prop) : Prop :=
 if (decide ((y8 : Int) < x7)) = true then
 ∃ a1 : Addr, AQ Try.prog (Instr.indexAt 67 (.slice Ax0 lx0 cx0) (.int .i64 y8)) (.pointer ((some a1))) ∧
 ∃ (A2 : Option Addr) (l2 c2 : Nat), QRun Try.prog (Instr.loadAt 30 (.pointer ((some a1)))) H0 (.slice A2 l2 c2) ∧
 HCall Try.prog base 51 #[(.slice A2 l2 c2), (.pointer ((some x1_0)))] H0 fun v3 H4 =>
 ∃ b5 : Bool, v3 = (.bool b5) ∧ if b5 = true then
 K (.int .i64 y8) H4
 else
 N0 (.int .i64 ((IntKind.i64.wrap (y8 + 1)))) H4
 else
 K (.int .i64 ((-1))) H0
theorem slices_IndexFunc_LLuint64_Luint64.loop0 {base : Nat} {Ax0 : Option Addr} {lx0 cx0 : Nat} {x1_0 : Addr} {x7 y8_i : Int} {H0 : HH} {K : Value → HH → Prop} (J : Nat → Int → HH → Prop) (n : Nat) (h0 : J n y8_i H0)
    (hs : ∀ (n : Nat) (y8 : Int) (g : Fr) (H0 : HH), J n y8 H0 → slices_IndexFunc_LLuint64_Luint64.B0 base Ax0 lx0 cx0 x1_0 x7 y8 g (fun w8 H => ∃ n', n' < n ∧ ∃ (y8' : Int), w8 = (.int .i64 y8') ∧ J n' y8' H) H0 K) : slices_IndexFunc_LLuint64_Luint64.P0 base [(.slice Ax0 lx0 cx0), (.func (.func 51) #[] #[(.pointer ((some x1_0)))]), (.int .i64 x7), (.int .i64 y8_i)] H0 K := by
  refine loop_rule (ann := slices_IndexFunc_LLuint64_Luint64.ann) (body := codeAt [.r, .l, .r, .b, .lp] (bodyOf Try.f54)) mix (by kernel_rfl) 524080 (by kernel_rfl) [0, 1, 7] [(.slice Ax0 lx0 cx0), (.func (.func 51) #[] #[(.pointer ((some x1_0)))]), (.int .i64 x7)] (by kernel_rfl) (fun fr ⟨e0, e1, e7, e8, _⟩ => ⟨e0, e1, e7, trivial⟩) (fun n g H => ∃ (y8 : Int), g 8 = (.int .i64 y8) ∧ J n y8 H) n (fun fr ⟨e0, e1, e7, e8, _⟩ => ⟨y8_i, e8, h0⟩) ?_
  rintro n g H0 ⟨e0, e1, e7, _⟩ ⟨y8, e8, hJ⟩
  rw [← ov_eq (g := g) [(0, (.slice Ax0 lx0 cx0)), (1, (.func (.func 51) #[] #[(.pointer ((some x1_0)))])), (7, (.int .i64 x7)), (8, (.int .i64 y8))] (by simp only [List.mem_cons, List.not_mem_nil, or_false, forall_eq_or_imp, forall_eq, false_implies, implies_true]; exact ⟨e0, e1, e7, e8⟩)]
  have key : ∀ NN : Value → HH → Prop, slices_IndexFunc_LLuint64_Luint64.B0 base Ax0 lx0 cx0 x1_0 x7 y8 g NN H0 K = wpC Try.prog base 19 slices_IndexFunc_LLuint64_Luint64.ann (codeAt [.r, .l, .r, .b, .lp] (bodyOf Try.f54)) (ov g [(0, (.slice Ax0 lx0 cx0)), (1, (.func (.func 51) #[] #[(.pointer ((some x1_0)))])), (7, (.int .i64 x7)), (8, (.int .i64 y8))]) H0 (thenQ (fun fr H => NN (fr 8) H) (qAt Try.prog base 19 slices_IndexFunc_LLuint64_Luint64.ann [.r, .l, .r, .b] [] (bodyOf Try.f54) (retQ Try.prog 19 Try.f54 K))) := fun NN => by kernel_rfl
  refine cast ?_ (hs n y8 g H0 hJ)
  refine (key (fun w8 H => ∃ n', n' < n ∧ ∃ (y8' : Int), w8 = (.int .i64 y8') ∧ J n' y8' H)).trans ?_
  kernel_rfl
def slices_ContainsFunc_LLuint64_Luint64.ann : Ann := ⟨fun k => [], fun k => false, fun k => []⟩
def slices_ContainsFunc_LLuint64_Luint64.sh (base : Nat) (Ax0 : Option Addr) (lx0 cx0 : Nat) (x1_0 : Addr) (H0 : HH) (K : Value → HH → Prop) : Prop :=
 HCall Try.prog base 54 #[(.slice Ax0 lx0 cx0), (.func (.func 51) #[] #[(.pointer ((some x1_0)))])] H0 fun v1 H2 =>
 ∃ n3 : Int, v1 = (.int .i64 n3) ∧ K (.bool ((decide ((n3 : Int) ≥ 0)))) H2
theorem slices_ContainsFunc_LLuint64_Luint64.spec {base : Nat} {Ax0 : Option Addr} {lx0 cx0 : Nat} {x1_0 : Addr} {H0 : HH} {K : Value → HH → Prop} (h : slices_ContainsFunc_LLuint64_Luint64.sh base Ax0 lx0 cx0 x1_0 H0 K) : HCall Try.prog base 50 #[(.slice Ax0 lx0 cx0), (.func (.func 51) #[] #[(.pointer ((some x1_0)))])] H0 K := spec_of_wpC (n := 9) (ann := slices_ContainsFunc_LLuint64_Luint64.ann) mix Try.func50 (by kernel_rfl) (cast (show slices_ContainsFunc_LLuint64_Luint64.sh base Ax0 lx0 cx0 x1_0 H0 K = wpC Try.prog base 9 slices_ContainsFunc_LLuint64_Luint64.ann (bodyOf Try.f50) (ofL [(.slice Ax0 lx0 cx0), (.func (.func 51) #[] #[(.pointer ((some x1_0)))])]) H0 (retQ Try.prog 9 Try.f50 K) by kernel_rfl) h)
def matrix_rect.ann : Ann := ⟨fun k => [], fun k => false, fun k => []⟩
def matrix_rect.sh (base : Nat) (Ax0 : Option Addr) (lx0 cx0 : Nat) (H0 : HH) (K : Value → HH → Prop) : Prop :=
 HRun Try.prog base (Instr.box 67 (.slice Ax0 lx0 cx0)) H0 fun v1 H2 =>
 ∃ a3 : Addr, v1 = (.pointer ((some a3))) ∧ ∃ (A4 : Option Addr) (l4 c4 : Nat), QRun Try.prog (Instr.loadAt 67 (.pointer ((some a3)))) H2 (.slice A4 l4 c4) ∧
 HCall Try.prog base 50 #[(.slice A4 l4 c4), (.func (.func 51) #[] #[(.pointer ((some a3)))])] H2 fun v5 H6 =>
 ∃ b7 : Bool, v5 = (.bool b7) ∧ K (.bool ((!b7))) H6
theorem matrix_rect.spec {base : Nat} {Ax0 : Option Addr} {lx0 cx0 : Nat} {H0 : HH} {K : Value → HH → Prop} (h : matrix_rect.sh base Ax0 lx0 cx0 H0 K) : HCall Try.prog base 42 #[(.slice Ax0 lx0 cx0)] H0 K := spec_of_wpC (n := 7) (ann := matrix_rect.ann) mix Try.func42 (by kernel_rfl) (cast (show matrix_rect.sh base Ax0 lx0 cx0 H0 K = wpC Try.prog base 7 matrix_rect.ann (bodyOf Try.f42) (ofL [(.slice Ax0 lx0 cx0)]) H0 (retQ Try.prog 7 Try.f42 K) by kernel_rfl) h)
def matrix_cols.ann : Ann := ⟨fun k => [], fun k => false, fun k => []⟩
def matrix_cols.sh (base : Nat) (Ax0 : Option Addr) (lx0 cx0 : Nat) (H0 : HH) (K : Value → HH → Prop) : Prop :=
 if ((((lx0 : Nat) : Int) : Int) == 0) = true then
 K (.int .i64 0) H0
 else
 ∃ a1 : Addr, AQ Try.prog (Instr.indexAt 67 (.slice Ax0 lx0 cx0) (.int .i64 0)) (.pointer ((some a1))) ∧
 ∃ (A2 : Option Addr) (l2 c2 : Nat), QRun Try.prog (Instr.loadAt 30 (.pointer ((some a1)))) H0 (.slice A2 l2 c2) ∧
 K (.int .i64 (((l2 : Nat) : Int))) H0
theorem matrix_cols.spec {base : Nat} {Ax0 : Option Addr} {lx0 cx0 : Nat} {H0 : HH} {K : Value → HH → Prop} (h : matrix_cols.sh base Ax0 lx0 cx0 H0 K) : HCall Try.prog base 43 #[(.slice Ax0 lx0 cx0)] H0 K := spec_of_wpC (n := 10) (ann := matrix_cols.ann) mix Try.func43 (by kernel_rfl) (cast (show matrix_cols.sh base Ax0 lx0 cx0 H0 K = wpC Try.prog base 10 matrix_cols.ann (bodyOf Try.f43) (ofL [(.slice Ax0 lx0 cx0)]) H0 (retQ Try.prog 10 Try.f43 K) by kernel_rfl) h)
def slices_Clone_Luint64_uint64.ann : Ann := ⟨fun k => [], fun k => false, fun k => []⟩
def slices_Clone_Luint64_uint64.sh (base : Nat) (Ax0 : Option Addr) (lx0 cx0 : Nat) (H0 : HH) (K : Value → HH → Prop) : Prop :=
 ∃ b1 : Bool, AQ Try.prog (binSem .eql 30 (.tmp 3) (.const (.slice none 0 0)) (.slice Ax0 lx0 cx0) (.slice none 0 0)) (.bool b1) ∧
 if b1 = true then
 K (.slice none 0 0) H0
 else
 HRun Try.prog base (Instr.buildSlice 30 0 #[]) H0 fun v2 H3 =>
 ∃ (A4 : Option Addr) (l4 c4 : Nat), v2 = (.slice A4 l4 c4) ∧ HRun Try.prog base (Builtin.append_ #[30, 30] 30 #[(.slice A4 l4 c4), (.slice Ax0 lx0 cx0)]) H3 fun v5 H6 =>
 ∃ (A7 : Option Addr) (l7 c7 : Nat), v5 = (.slice A7 l7 c7) ∧ K (.slice A7 l7 c7) H6
theorem slices_Clone_Luint64_uint64.spec {base : Nat} {Ax0 : Option Addr} {lx0 cx0 : Nat} {H0 : HH} {K : Value → HH → Prop} (h : slices_Clone_Luint64_uint64.sh base Ax0 lx0 cx0 H0 K) : HCall Try.prog base 44 #[(.slice Ax0 lx0 cx0)] H0 K := spec_of_wpC (n := 8) (ann := slices_Clone_Luint64_uint64.ann) mix Try.func44 (by kernel_rfl) (cast (show slices_Clone_Luint64_uint64.sh base Ax0 lx0 cx0 H0 K = wpC Try.prog base 8 slices_Clone_Luint64_uint64.ann (bodyOf Try.f44) (ofL [(.slice Ax0 lx0 cx0)]) H0 (retQ Try.prog 8 Try.f44 K) by kernel_rfl) h)
def slices_Clone_LLuint64_Luint64.ann : Ann := ⟨fun k => [], fun k => false, fun k => []⟩
def slices_Clone_LLuint64_Luint64.sh (base : Nat) (Ax0 : Option Addr) (lx0 cx0 : Nat) (H0 : HH) (K : Value → HH → Prop) : Prop :=
 ∃ b1 : Bool, AQ Try.prog (binSem .eql 67 (.tmp 3) (.const (.slice none 0 0)) (.slice Ax0 lx0 cx0) (.slice none 0 0)) (.bool b1) ∧
 if b1 = true then
 K (.slice none 0 0) H0
 else
 HRun Try.prog base (Instr.buildSlice 67 0 #[]) H0 fun v2 H3 =>
 ∃ (A4 : Option Addr) (l4 c4 : Nat), v2 = (.slice A4 l4 c4) ∧ HRun Try.prog base (Builtin.append_ #[67, 67] 67 #[(.slice A4 l4 c4), (.slice Ax0 lx0 cx0)]) H3 fun v5 H6 =>
 ∃ (A7 : Option Addr) (l7 c7 : Nat), v5 = (.slice A7 l7 c7) ∧ K (.slice A7 l7 c7) H6
theorem slices_Clone_LLuint64_Luint64.spec {base : Nat} {Ax0 : Option Addr} {lx0 cx0 : Nat} {H0 : HH} {K : Value → HH → Prop} (h : slices_Clone_LLuint64_Luint64.sh base Ax0 lx0 cx0 H0 K) : HCall Try.prog base 52 #[(.slice Ax0 lx0 cx0)] H0 K := spec_of_wpC (n := 8) (ann := slices_Clone_LLuint64_Luint64.ann) mix Try.func52 (by kernel_rfl) (cast (show slices_Clone_LLuint64_Luint64.sh base Ax0 lx0 cx0 H0 K = wpC Try.prog base 8 slices_Clone_LLuint64_Luint64.ann (bodyOf Try.f52) (ofL [(.slice Ax0 lx0 cx0)]) H0 (retQ Try.prog 8 Try.f52 K) by kernel_rfl) h)
def matrix_Solve.ann : Ann := ⟨fun k => bif Nat.beq k 8 then [2, 7, 8, 9, 10] else bif Nat.beq k 11 then [] else [], fun k => false, fun k => bif Nat.beq k 6 then [0, 2, 8, 9, 30, 31, 32] else bif Nat.beq k 12 then [8, 12, 62, 63, 64] else bif Nat.beq k 19 then [8, 12, 15, 79, 80, 81] else []⟩
def matrix_Solve.P0 (base : Nat) (l : List Value) (H0 : HH) (K : Value → HH → Prop) : Prop := HCodeL Try.prog base 101 (codeAt [.r, .r, .r, .r, .l, .r, .b] (bodyOf Try.f35)) [0, 2, 8, 9, 30, 31, 32] l H0 (qAt Try.prog base 101 matrix_Solve.ann [.r, .r, .r, .r, .l, .r, .b] [] (bodyOf Try.f35) (retQ Try.prog 101 Try.f35 K))
def matrix_Solve.P1 (base : Nat) (l : List Value) (H0 : HH) (K : Value → HH → Prop) : Prop := HCodeL Try.prog base 101 (codeAt [.r, .r, .r, .r, .r, .r, .l, .r, .b] (bodyOf Try.f35)) [8, 12, 62, 63, 64] l H0 (qAt Try.prog base 101 matrix_Solve.ann [.r, .r, .r, .r, .r, .r, .l, .r, .b] [] (bodyOf Try.f35) (retQ Try.prog 101 Try.f35 K))
def matrix_Solve.P2 (base : Nat) (l : List Value) (H0 : HH) (K : Value → HH → Prop) : Prop := HCodeL Try.prog base 101 (codeAt [.r, .r, .r, .r, .r, .r, .r, .r, .l, .r, .b] (bodyOf Try.f35)) [8, 12, 15, 79, 80, 81] l H0 (qAt Try.prog base 101 matrix_Solve.ann [.r, .r, .r, .r, .r, .r, .r, .r, .l, .r, .b] [] (bodyOf Try.f35) (retQ Try.prog 101 Try.f35 K))
def matrix_Solve.sh (base : Nat) (x0 : Int) (Ax1 : Option Addr) (lx1 cx1 : Nat) (Ax2 : Option Addr) (lx2 cx2 : Nat) (H0 : HH) (K : Value → HH → Prop) : Prop :=
 HCall Try.prog base 42 #[(.slice Ax1 lx1 cx1)] H0 fun v1 H2 =>
 ∃ b3 : Bool, v1 = (.bool b3) ∧ if (!b3) = false then
 if ((((lx1 : Nat) : Int) : Int) != (((lx2 : Nat) : Int))) = true then
 K (.tuple #[(.slice none 0 0), (.int .i64 1)]) H2
 else
 HCall Try.prog base 43 #[(.slice Ax1 lx1 cx1)] H2 fun v4 H5 =>
 ∃ n6 : Int, v4 = (.int .i64 n6) ∧ matrix_Solve.P0 base [(.int .u64 x0), (.slice Ax2 lx2 cx2), (.int .i64 n6), (.slice none 0 0), (.slice Ax1 lx1 cx1), (.int .i64 (((lx1 : Nat) : Int))), (.int .i64 0)] H5 K
 else
 K (.tuple #[(.slice none 0 0), (.int .i64 1)]) H2
theorem matrix_Solve.spec {base : Nat} {x0 : Int} {Ax1 : Option Addr} {lx1 cx1 : Nat} {Ax2 : Option Addr} {lx2 cx2 : Nat} {H0 : HH} {K : Value → HH → Prop} (h : matrix_Solve.sh base x0 Ax1 lx1 cx1 Ax2 lx2 cx2 H0 K) : HCall Try.prog base 35 #[(.int .u64 x0), (.slice Ax1 lx1 cx1), (.slice Ax2 lx2 cx2)] H0 K := spec_of_wpC (n := 101) (ann := matrix_Solve.ann) mix Try.func35 (by kernel_rfl) (cast (show matrix_Solve.sh base x0 Ax1 lx1 cx1 Ax2 lx2 cx2 H0 K = wpC Try.prog base 101 matrix_Solve.ann (bodyOf Try.f35) (ofL [(.int .u64 x0), (.slice Ax1 lx1 cx1), (.slice Ax2 lx2 cx2)]) H0 (retQ Try.prog 101 Try.f35 K) by kernel_rfl) h)
def matrix_Solve.B0 (base : Nat) (x0 : Int) (Ax2 : Option Addr) (lx2 cx2 : Nat) (x8 : Int) (Ax30 : Option Addr) (lx30 cx30 : Nat) (x31 : Int) (Ay9 : Option Addr) (ly9 cy9 : Nat) (y32 : Int) (g : Fr) (N0 : Value → Value → HH → Prop) (H0 : HH) (K : Value → HH → Prop) : Prop :=
 if (decide ((y32 : Int) < x31)) = true then
 ∃ a7 : Addr, AQ Try.prog (Instr.indexAt 67 (.slice Ax30 lx30 cx30) (.int .i64 y32)) (.pointer ((some a7))) ∧
 ∃ (A8 : Option Addr) (l8 c8 : Nat), QRun Try.prog (Instr.loadAt 30 (.pointer ((some a7)))) H0 (.slice A8 l8 c8) ∧
 ∃ a9 : Addr, AQ Try.prog (Instr.indexAt 30 (.slice Ax2 lx2 cx2) (.int .i64 y32)) (.pointer ((some a9))) ∧
 ∃ n10 : Int, QRun Try.prog (Instr.loadAt 22 (.pointer ((some a9)))) H0 (.int .u64 n10) ∧
 (HCall Try.prog base 44 #[(.slice A8 l8 c8)] H0 fun v11 H12 =>
 ∃ (A13 : Option Addr) (l13 c13 : Nat), v11 = (.slice A13 l13 c13) ∧ QRun Try.prog (Instr.loadAt 22 (.pointer ((some a9)))) H12 (.int .u64 n10) ∧
 HRun Try.prog base (Instr.buildSlice 30 1 #[(0, (.int .u64 n10))]) H12 fun v14 H15 =>
 ∃ (A16 : Option Addr) (l16 c16 : Nat), v14 = (.slice A16 l16 c16) ∧ HRun Try.prog base (Builtin.append_ #[30, 30] 30 #[(.slice A13 l13 c13), (.slice A16 l16 c16)]) H15 fun v17 H18 =>
 ∃ (A19 : Option Addr) (l19 c19 : Nat), v17 = (.slice A19 l19 c19) ∧ HRun Try.prog base (Instr.buildSlice 67 1 #[(0, (.slice A19 l19 c19))]) H18 fun v20 H21 =>
 ∃ (A22 : Option Addr) (l22 c22 : Nat), v20 = (.slice A22 l22 c22) ∧ HRun Try.prog base (Builtin.append_ #[67, 67] 67 #[(.slice Ay9 ly9 cy9), (.slice A22 l22 c22)]) H21 fun v23 H24 =>
 ∃ (A25 : Option Addr) (l25 c25 : Nat), v23 = (.slice A25 l25 c25) ∧ N0 (.slice A25 l25 c25) (.int .i64 ((IntKind.i64.wrap (y32 + 1)))) H24) ∧
 (HRun Try.prog base (Instr.buildSlice 30 1 #[(0, (.int .u64 n10))]) H0 fun v26 H27 =>
 ∃ (A28 : Option Addr) (l28 c28 : Nat), v26 = (.slice A28 l28 c28) ∧ HCall Try.prog base 44 #[(.slice A8 l8 c8)] H27 fun v29 H30 =>
 ∃ (A31 : Option Addr) (l31 c31 : Nat), v29 = (.slice A31 l31 c31) ∧ HRun Try.prog base (Builtin.append_ #[30, 30] 30 #[(.slice A31 l31 c31), (.slice A28 l28 c28)]) H30 fun v32 H33 =>
 ∃ (A34 : Option Addr) (l34 c34 : Nat), v32 = (.slice A34 l34 c34) ∧ HRun Try.prog base (Instr.buildSlice 67 1 #[(0, (.slice A34 l34 c34))]) H33 fun v35 H36 =>
 ∃ (A37 : Option Addr) (l37 c37 : Nat), v35 = (.slice A37 l37 c37) ∧ HRun Try.prog base (Builtin.append_ #[67, 67] 67 #[(.slice Ay9 ly9 cy9), (.slice A37 l37 c37)]) H36 fun v38 H39 =>
 ∃ (A40 : Option Addr) (l40 c40 : Nat), v38 = (.slice A40 l40 c40) ∧ N0 (.slice A40 l40 c40) (.int .i64 ((IntKind.i64.wrap (y32 + 1)))) H39)
 else
 HCall Try.prog base 45 #[(.int .u64 x0), (.slice Ay9 ly9 cy9), (.int .i64 x8)] H0 fun v41 H42 =>
 ∃ a43 : Addr, v41 = (.pointer ((some a43))) ∧ ∃ a44 : Addr, AQ Try.prog (Instr.fieldAt 80 (.pointer ((some a43))) 1) (.pointer ((some a44))) ∧
 ∃ (A45 : Option Addr) (l45 c45 : Nat), QRun Try.prog (Instr.loadAt 67 (.pointer ((some a44)))) H42 (.slice A45 l45 c45) ∧
 ∃ a46 : Addr, AQ Try.prog (Instr.fieldAt 80 (.pointer ((some a43))) 2) (.pointer ((some a46))) ∧
 ∃ (A47 : Option Addr) (l47 c47 : Nat), QRun Try.prog (Instr.loadAt 31 (.pointer ((some a46)))) H42 (.slice A47 l47 c47) ∧
 ∃ (A48 : Option Addr) (l48 c48 : Nat), AQ Try.prog (Instr.sliceAt 67 (.slice A45 l45 c45) (some (.int .i64 (((l47 : Nat) : Int)))) none none) (.slice A48 l48 c48) ∧
 matrix_Solve.P1 base [(.int .i64 x8), (.pointer ((some a43))), (.slice A48 l48 c48), (.int .i64 (((l48 : Nat) : Int))), (.int .i64 0)] H42 K
theorem matrix_Solve.loop0 {base : Nat} {x0 : Int} {Ax2 : Option Addr} {lx2 cx2 : Nat} {x8 : Int} {Ax30 : Option Addr} {lx30 cx30 : Nat} {x31 : Int} {Ay9_i : Option Addr} {ly9_i cy9_i : Nat} {y32_i : Int} {H0 : HH} {K : Value → HH → Prop} (J : Nat → Option Addr → Nat → Nat → Int → HH → Prop) (n : Nat) (h0 : J n Ay9_i ly9_i cy9_i y32_i H0)
    (hs : ∀ (n : Nat) (Ay9 : Option Addr) (ly9 cy9 : Nat) (y32 : Int) (g : Fr) (H0 : HH), J n Ay9 ly9 cy9 y32 H0 → matrix_Solve.B0 base x0 Ax2 lx2 cx2 x8 Ax30 lx30 cx30 x31 Ay9 ly9 cy9 y32 g (fun w9 w32 H => ∃ n', n' < n ∧ ∃ (Ay9' : Option Addr) (ly9' cy9' : Nat) (y32' : Int), w9 = (.slice Ay9' ly9' cy9') ∧ w32 = (.int .i64 y32') ∧ J n' Ay9' ly9' cy9' y32' H) H0 K) : matrix_Solve.P0 base [(.int .u64 x0), (.slice Ax2 lx2 cx2), (.int .i64 x8), (.slice Ay9_i ly9_i cy9_i), (.slice Ax30 lx30 cx30), (.int .i64 x31), (.int .i64 y32_i)] H0 K := by
  refine loop_rule (ann := matrix_Solve.ann) (body := codeAt [.r, .r, .r, .r, .l, .r, .b, .lp] (bodyOf Try.f35)) mix (by kernel_rfl) 562945658457600 (by kernel_rfl) [0, 2, 8, 30, 31] [(.int .u64 x0), (.slice Ax2 lx2 cx2), (.int .i64 x8), (.slice Ax30 lx30 cx30), (.int .i64 x31)] (by kernel_rfl) (fun fr ⟨e0, e2, e8, e9, e30, e31, e32, _⟩ => ⟨e0, e2, e8, e30, e31, trivial⟩) (fun n g H => ∃ (Ay9 : Option Addr) (ly9 cy9 : Nat) (y32 : Int), g 9 = (.slice Ay9 ly9 cy9) ∧ g 32 = (.int .i64 y32) ∧ J n Ay9 ly9 cy9 y32 H) n (fun fr ⟨e0, e2, e8, e9, e30, e31, e32, _⟩ => ⟨Ay9_i, ly9_i, cy9_i, y32_i, e9, e32, h0⟩) ?_
  rintro n g H0 ⟨e0, e2, e8, e30, e31, _⟩ ⟨Ay9, ly9, cy9, y32, e9, e32, hJ⟩
  rw [← ov_eq (g := g) [(0, (.int .u64 x0)), (2, (.slice Ax2 lx2 cx2)), (8, (.int .i64 x8)), (9, (.slice Ay9 ly9 cy9)), (30, (.slice Ax30 lx30 cx30)), (31, (.int .i64 x31)), (32, (.int .i64 y32))] (by simp only [List.mem_cons, List.not_mem_nil, or_false, forall_eq_or_imp, forall_eq, false_implies, implies_true]; exact ⟨e0, e2, e8, e9, e30, e31, e32⟩)]
  have key : ∀ NN : Value → Value → HH → Prop, matrix_Solve.B0 base x0 Ax2 lx2 cx2 x8 Ax30 lx30 cx30 x31 Ay9 ly9 cy9 y32 g NN H0 K = wpC Try.prog base 101 matrix_Solve.ann (codeAt [.r, .r, .r, .r, .l, .r, .b, .lp] (bodyOf Try.f35)) (ov g [(0, (.int .u64 x0)), (2, (.slice Ax2 lx2 cx2)), (8, (.int .i64 x8)), (9, (.slice Ay9 ly9 cy9)), (30, (.slice Ax30 lx30 cx30)), (31, (.int .i64 x31)), (32, (.int .i64 y32))]) H0 (thenQ (fun fr H => NN (fr 9) (fr 32) H) (qAt Try.prog base 101 matrix_Solve.ann [.r, .r, .r, .r, .l, .r, .b] [] (bodyOf Try.f35) (retQ Try.prog 101 Try.f35 K))) := fun NN => by kernel_rfl
  refine cast ?_ (hs n Ay9 ly9 cy9 y32 g H0 hJ)
  refine (key (fun w9 w32 H => ∃ n', n' < n ∧ ∃ (Ay9' : Option Addr) (ly9' cy9' : Nat) (y32' : Int), w9 = (.slice Ay9' ly9' cy9') ∧ w32 = (.int .i64 y32') ∧ J n' Ay9' ly9' cy9' y32' H)).trans ?_
  kernel_rfl
def matrix_Solve.B1 (base : Nat) (x8 : Int) (x12 : Addr) (Ax62 : Option Addr) (lx62 cx62 : Nat) (x63 : Int) (y64 : Int) (g : Fr) (N1 : Value → HH → Prop) (H0 : HH) (K : Value → HH → Prop) : Prop :=
 if (decide ((y64 : Int) < x63)) = true then
 ∃ a49 : Addr, AQ Try.prog (Instr.indexAt 67 (.slice Ax62 lx62 cx62) (.int .i64 y64)) (.pointer ((some a49))) ∧
 ∃ (A50 : Option Addr) (l50 c50 : Nat), QRun Try.prog (Instr.loadAt 30 (.pointer ((some a49)))) H0 (.slice A50 l50 c50) ∧
 ∃ a51 : Addr, AQ Try.prog (Instr.indexAt 30 (.slice A50 l50 c50) (.int .i64 x8)) (.pointer ((some a51))) ∧
 ∃ n52 : Int, QRun Try.prog (Instr.loadAt 22 (.pointer ((some a51)))) H0 (.int .u64 n52) ∧
 if ((n52 : Int) != 0) = true then
 K (.tuple #[(.slice none 0 0), (.int .i64 6)]) H0
 else
 N1 (.int .i64 ((IntKind.i64.wrap (y64 + 1)))) H0
 else
 HRun Try.prog base (Instr.makeSlice 30 (.int .i64 x8) (.int .i64 x8)) H0 fun v53 H54 =>
 ∃ (A55 : Option Addr) (l55 c55 : Nat), v53 = (.slice A55 l55 c55) ∧ ∃ a56 : Addr, AQ Try.prog (Instr.fieldAt 80 (.pointer ((some x12))) 2) (.pointer ((some a56))) ∧
 ∃ (A57 : Option Addr) (l57 c57 : Nat), QRun Try.prog (Instr.loadAt 31 (.pointer ((some a56)))) H54 (.slice A57 l57 c57) ∧
 matrix_Solve.P2 base [(.int .i64 x8), (.pointer ((some x12))), (.slice A55 l55 c55), (.slice A57 l57 c57), (.int .i64 (((l57 : Nat) : Int))), (.int .i64 0)] H54 K
theorem matrix_Solve.loop1 {base : Nat} {x8 : Int} {x12 : Addr} {Ax62 : Option Addr} {lx62 cx62 : Nat} {x63 y64_i : Int} {H0 : HH} {K : Value → HH → Prop} (J : Nat → Int → HH → Prop) (n : Nat) (h0 : J n y64_i H0)
    (hs : ∀ (n : Nat) (y64 : Int) (g : Fr) (H0 : HH), J n y64 H0 → matrix_Solve.B1 base x8 x12 Ax62 lx62 cx62 x63 y64 g (fun w64 H => ∃ n', n' < n ∧ ∃ (y64' : Int), w64 = (.int .i64 y64') ∧ J n' y64' H) H0 K) : matrix_Solve.P1 base [(.int .i64 x8), (.pointer ((some x12))), (.slice Ax62 lx62 cx62), (.int .i64 x63), (.int .i64 y64_i)] H0 K := by
  refine loop_rule (ann := matrix_Solve.ann) (body := codeAt [.r, .r, .r, .r, .r, .r, .l, .r, .b, .lp] (bodyOf Try.f35)) mix (by kernel_rfl) 18871019187404871319744 (by kernel_rfl) [8, 12, 62, 63] [(.int .i64 x8), (.pointer ((some x12))), (.slice Ax62 lx62 cx62), (.int .i64 x63)] (by kernel_rfl) (fun fr ⟨e8, e12, e62, e63, e64, _⟩ => ⟨e8, e12, e62, e63, trivial⟩) (fun n g H => ∃ (y64 : Int), g 64 = (.int .i64 y64) ∧ J n y64 H) n (fun fr ⟨e8, e12, e62, e63, e64, _⟩ => ⟨y64_i, e64, h0⟩) ?_
  rintro n g H0 ⟨e8, e12, e62, e63, _⟩ ⟨y64, e64, hJ⟩
  rw [← ov_eq (g := g) [(8, (.int .i64 x8)), (12, (.pointer ((some x12)))), (62, (.slice Ax62 lx62 cx62)), (63, (.int .i64 x63)), (64, (.int .i64 y64))] (by simp only [List.mem_cons, List.not_mem_nil, or_false, forall_eq_or_imp, forall_eq, false_implies, implies_true]; exact ⟨e8, e12, e62, e63, e64⟩)]
  have key : ∀ NN : Value → HH → Prop, matrix_Solve.B1 base x8 x12 Ax62 lx62 cx62 x63 y64 g NN H0 K = wpC Try.prog base 101 matrix_Solve.ann (codeAt [.r, .r, .r, .r, .r, .r, .l, .r, .b, .lp] (bodyOf Try.f35)) (ov g [(8, (.int .i64 x8)), (12, (.pointer ((some x12)))), (62, (.slice Ax62 lx62 cx62)), (63, (.int .i64 x63)), (64, (.int .i64 y64))]) H0 (thenQ (fun fr H => NN (fr 64) H) (qAt Try.prog base 101 matrix_Solve.ann [.r, .r, .r, .r, .r, .r, .l, .r, .b] [] (bodyOf Try.f35) (retQ Try.prog 101 Try.f35 K))) := fun NN => by kernel_rfl
  refine cast ?_ (hs n y64 g H0 hJ)
  refine (key (fun w64 H => ∃ n', n' < n ∧ ∃ (y64' : Int), w64 = (.int .i64 y64') ∧ J n' y64' H)).trans ?_
  kernel_rfl
def matrix_Solve.B2 (base : Nat) (x8 : Int) (x12 : Addr) (Ax15 : Option Addr) (lx15 cx15 : Nat) (Ax79 : Option Addr) (lx79 cx79 : Nat) (x80 : Int) (y81 : Int) (g : Fr) (N2 : Value → HH → Prop) (H0 : HH) (K : Value → HH → Prop) : Prop :=
 if (decide ((y81 : Int) < x80)) = true then
 ∃ a58 : Addr, AQ Try.prog (Instr.indexAt 31 (.slice Ax79 lx79 cx79) (.int .i64 y81)) (.pointer ((some a58))) ∧
 ∃ n59 : Int, QRun Try.prog (Instr.loadAt 3 (.pointer ((some a58)))) H0 (.int .i64 n59) ∧
 ∃ a60 : Addr, AQ Try.prog (Instr.fieldAt 80 (.pointer ((some x12))) 1) (.pointer ((some a60))) ∧
 ∃ (A61 : Option Addr) (l61 c61 : Nat), QRun Try.prog (Instr.loadAt 67 (.pointer ((some a60)))) H0 (.slice A61 l61 c61) ∧
 ∃ a62 : Addr, AQ Try.prog (Instr.indexAt 67 (.slice A61 l61 c61) (.int .i64 y81)) (.pointer ((some a62))) ∧
 ∃ (A63 : Option Addr) (l63 c63 : Nat), QRun Try.prog (Instr.loadAt 30 (.pointer ((some a62)))) H0 (.slice A63 l63 c63) ∧
 ∃ a64 : Addr, AQ Try.prog (Instr.indexAt 30 (.slice A63 l63 c63) (.int .i64 x8)) (.pointer ((some a64))) ∧
 ∃ n65 : Int, QRun Try.prog (Instr.loadAt 22 (.pointer ((some a64)))) H0 (.int .u64 n65) ∧
 ∃ a66 : Addr, AQ Try.prog (Instr.indexAt 30 (.slice Ax15 lx15 cx15) (.int .i64 n59)) (.pointer ((some a66))) ∧
 HRun Try.prog base (Instr.storeAt 22 (.pointer ((some a66))) (.int .u64 n65)) H0 fun _ H67 =>
 N2 (.int .i64 ((IntKind.i64.wrap (y81 + 1)))) H67
 else
 K (.tuple #[(.slice Ax15 lx15 cx15), (.int .i64 0)]) H0
theorem matrix_Solve.loop2 {base : Nat} {x8 : Int} {x12 : Addr} {Ax15 : Option Addr} {lx15 cx15 : Nat} {Ax79 : Option Addr} {lx79 cx79 : Nat} {x80 y81_i : Int} {H0 : HH} {K : Value → HH → Prop} (J : Nat → Int → HH → Prop) (n : Nat) (h0 : J n y81_i H0)
    (hs : ∀ (n : Nat) (y81 : Int) (g : Fr) (H0 : HH), J n y81 H0 → matrix_Solve.B2 base x8 x12 Ax15 lx15 cx15 Ax79 lx79 cx79 x80 y81 g (fun w81 H => ∃ n', n' < n ∧ ∃ (y81' : Int), w81 = (.int .i64 y81') ∧ J n' y81' H) H0 K) : matrix_Solve.P2 base [(.int .i64 x8), (.pointer ((some x12))), (.slice Ax15 lx15 cx15), (.slice Ax79 lx79 cx79), (.int .i64 x80), (.int .i64 y81_i)] H0 K := by
  refine loop_rule (ann := matrix_Solve.ann) (body := codeAt [.r, .r, .r, .r, .r, .r, .r, .r, .l, .r, .b, .lp] (bodyOf Try.f35)) mix (by kernel_rfl) 1267648182376590172238353989632 (by kernel_rfl) [8, 12, 15, 79, 80] [(.int .i64 x8), (.pointer ((some x12))), (.slice Ax15 lx15 cx15), (.slice Ax79 lx79 cx79), (.int .i64 x80)] (by kernel_rfl) (fun fr ⟨e8, e12, e15, e79, e80, e81, _⟩ => ⟨e8, e12, e15, e79, e80, trivial⟩) (fun n g H => ∃ (y81 : Int), g 81 = (.int .i64 y81) ∧ J n y81 H) n (fun fr ⟨e8, e12, e15, e79, e80, e81, _⟩ => ⟨y81_i, e81, h0⟩) ?_
  rintro n g H0 ⟨e8, e12, e15, e79, e80, _⟩ ⟨y81, e81, hJ⟩
  rw [← ov_eq (g := g) [(8, (.int .i64 x8)), (12, (.pointer ((some x12)))), (15, (.slice Ax15 lx15 cx15)), (79, (.slice Ax79 lx79 cx79)), (80, (.int .i64 x80)), (81, (.int .i64 y81))] (by simp only [List.mem_cons, List.not_mem_nil, or_false, forall_eq_or_imp, forall_eq, false_implies, implies_true]; exact ⟨e8, e12, e15, e79, e80, e81⟩)]
  have key : ∀ NN : Value → HH → Prop, matrix_Solve.B2 base x8 x12 Ax15 lx15 cx15 Ax79 lx79 cx79 x80 y81 g NN H0 K = wpC Try.prog base 101 matrix_Solve.ann (codeAt [.r, .r, .r, .r, .r, .r, .r, .r, .l, .r, .b, .lp] (bodyOf Try.f35)) (ov g [(8, (.int .i64 x8)), (12, (.pointer ((some x12)))), (15, (.slice Ax15 lx15 cx15)), (79, (.slice Ax79 lx79 cx79)), (80, (.int .i64 x80)), (81, (.int .i64 y81))]) H0 (thenQ (fun fr H => NN (fr 81) H) (qAt Try.prog base 101 matrix_Solve.ann [.r, .r, .r, .r, .r, .r, .r, .r, .l, .r, .b] [] (bodyOf Try.f35) (retQ Try.prog 101 Try.f35 K))) := fun NN => by kernel_rfl
  refine cast ?_ (hs n y81 g H0 hJ)
  refine (key (fun w81 H => ∃ n', n' < n ∧ ∃ (y81' : Int), w81 = (.int .i64 y81') ∧ J n' y81' H)).trans ?_
  kernel_rfl
end Go.Proofs.Ytbogcgkeabkliac.HL
end
section
set_option linter.unusedVariables false
set_option linter.unusedSimpArgs false
set_option maxRecDepth 100000
namespace Go.Proofs.Ytbogcgkeabkliac.HL
open Go
def privitylaw08_awake.ann : Ann := ⟨fun k => [], fun k => false, fun k => []⟩
def privitylaw08_awake.sh (base : Nat)  (H0 : HH) (K : Value → HH → Prop) : Prop :=
 ∃ n1 : Int, ∃ n2 : Int, AQ Try.prog (Instr.build 29 #[(0, (.int .u64 1)), (1, (.int .u64 2))]) (.agg #[(.int .u64 n1), (.int .u64 n2)]) ∧
 ∃ n3 : Int, ∃ n4 : Int, AQ Try.prog (Instr.build 29 #[(0, (.int .u64 2)), (1, (.int .u64 3))]) (.agg #[(.int .u64 n3), (.int .u64 n4)]) ∧
 ∃ n5 : Int, ∃ n6 : Int, AQ Try.prog (Instr.build 29 #[(0, (.int .u64 3)), (1, (.int .u64 9))]) (.agg #[(.int .u64 n5), (.int .u64 n6)]) ∧
 ∃ n7 : Int, ∃ n8 : Int, AQ Try.prog (Instr.build 29 #[(0, (.int .u64 4)), (1, (.int .u64 5))]) (.agg #[(.int .u64 n7), (.int .u64 n8)]) ∧
 HRun Try.prog base (Instr.buildSlice 23 4 #[(0, (.agg #[(.int .u64 n1), (.int .u64 n2)])), (1, (.agg #[(.int .u64 n3), (.int .u64 n4)])), (2, (.agg #[(.int .u64 n5), (.int .u64 n6)])), (3, (.agg #[(.int .u64 n7), (.int .u64 n8)]))]) H0 fun v9 H10 =>
 ∃ (A11 : Option Addr) (l11 c11 : Nat), v9 = (.slice A11 l11 c11) ∧ HCall Try.prog base 8 #[(.int .u64 31), (.slice A11 l11 c11), (.int .i64 1), (.int .i64 1)] H10 fun v12 H13 =>
 ∃ (A14 : Option Addr) (l14 c14 : Nat), ∃ (A15 : Option Addr) (l15 c15 : Nat), ∃ n16 : Int, v12 = (.tuple #[(.slice A14 l14 c14), (.slice A15 l15 c15), (.int .i64 n16)]) ∧ HCall Try.prog base 8 #[(.int .u64 31), (.slice A11 l11 c11), (.int .i64 1), (.int .i64 2)] H13 fun v17 H18 =>
 ∃ (A19 : Option Addr) (l19 c19 : Nat), ∃ (A20 : Option Addr) (l20 c20 : Nat), ∃ n21 : Int, v17 = (.tuple #[(.slice A19 l19 c19), (.slice A20 l20 c20), (.int .i64 n21)]) ∧ HCall Try.prog base 8 #[(.int .u64 31), (.slice A11 l11 c11), (.int .i64 1), (.int .i64 0)] H18 fun v22 H23 =>
 ∃ (A24 : Option Addr) (l24 c24 : Nat), ∃ (A25 : Option Addr) (l25 c25 : Nat), ∃ n26 : Int, v22 = (.tuple #[(.slice A24 l24 c24), (.slice A25 l25 c25), (.int .i64 n26)]) ∧ if ((n16 : Int) == 0) = true then
 HRun Try.prog base (Instr.buildSlice 30 2 #[(0, (.int .u64 1)), (1, (.int .u64 1))]) H23 fun v27 H28 =>
 ∃ (A29 : Option Addr) (l29 c29 : Nat), v27 = (.slice A29 l29 c29) ∧ HCall Try.prog base 9 #[(.slice A14 l14 c14), (.slice A29 l29 c29)] H28 fun v30 H31 =>
 ∃ b32 : Bool, v30 = (.bool b32) ∧ if b32 = true then
 if ((((l15 : Nat) : Int) : Int) == 1) = true then
 ∃ a33 : Addr, AQ Try.prog (Instr.indexAt 31 (.slice A15 l15 c15) (.int .i64 0)) (.pointer ((some a33))) ∧
 ∃ n34 : Int, QRun Try.prog (Instr.loadAt 3 (.pointer ((some a33)))) H31 (.int .i64 n34) ∧
 if ((n34 : Int) == 2) = true then
 if ((n21 : Int) == 1) = true then
 if ((n26 : Int) == 9) = true then
 HCall Try.prog base 28 #[(.int .u64 31), (.slice A14 l14 c14), (.slice A11 l11 c11)] H31 fun v35 H36 =>
 ∃ (A37 : Option Addr) (l37 c37 : Nat), v35 = (.slice A37 l37 c37) ∧ K (.bool (((((l37 : Nat) : Int) : Int) == 1))) H36
 else
 K (.bool false) H31
 else
 K (.bool false) H31
 else
 K (.bool false) H31
 else
 K (.bool false) H31
 else
 K (.bool false) H31
 else
 K (.bool false) H23
theorem privitylaw08_awake.spec {base : Nat}  {H0 : HH} {K : Value → HH → Prop} (h : privitylaw08_awake.sh base  H0 K) : HCall Try.prog base 10 #[] H0 K := spec_of_wpC (n := 67) (ann := privitylaw08_awake.ann) mix Try.func10 (by kernel_rfl) (cast (show privitylaw08_awake.sh base  H0 K = wpC Try.prog base 67 privitylaw08_awake.ann (bodyOf Try.f10) (ofL []) H0 (retQ Try.prog 67 Try.f10 K) by kernel_rfl) h)
def privitylaw08_fit.ann : Ann := ⟨fun k => [], fun k => false, fun k => []⟩
def privitylaw08_fit.sh (base : Nat) (x0_0 : Int) (Ax0_1 : Option Addr) (lx0_1 cx0_1 : Nat) (x0_2 : Int) (x0_3 : Int) (H0 : HH) (K : Value → HH → Prop) : Prop :=
 HRun Try.prog base (Instr.box 25 (.agg #[(.int .u64 x0_0), (.slice Ax0_1 lx0_1 cx0_1), (.int .i64 x0_2), (.int .i64 x0_3)])) H0 fun v1 H2 =>
 ∃ a3 : Addr, v1 = (.pointer ((some a3))) ∧ ∃ a4 : Addr, AQ Try.prog (Instr.fieldAt 25 (.pointer ((some a3))) 0) (.pointer ((some a4))) ∧
 ∃ n5 : Int, QRun Try.prog (Instr.loadAt 22 (.pointer ((some a4)))) H2 (.int .u64 n5) ∧
 HCall Try.prog base 22 #[(.int .u64 n5)] H2 fun v6 H7 =>
 ∃ n8 : Int, v6 = (.int .u64 n8) ∧ ∃ a9 : Addr, AQ Try.prog (Instr.fieldAt 25 (.pointer ((some a3))) 1) (.pointer ((some a9))) ∧
 ∃ (A10 : Option Addr) (l10 c10 : Nat), QRun Try.prog (Instr.loadAt 23 (.pointer ((some a9)))) H7 (.slice A10 l10 c10) ∧
 HCall Try.prog base 23 #[(.int .u64 n8), (.slice A10 l10 c10), (.int .i64 9)] H7 fun v11 H12 =>
 ∃ (A13 : Option Addr) (l13 c13 : Nat), v11 = (.slice A13 l13 c13) ∧ K (.tuple #[(.int .u64 n8), (.slice A13 l13 c13)]) H12
theorem privitylaw08_fit.spec {base : Nat} {x0_0 : Int} {Ax0_1 : Option Addr} {lx0_1 cx0_1 : Nat} {x0_2 : Int} {x0_3 : Int} {H0 : HH} {K : Value → HH → Prop} (h : privitylaw08_fit.sh base x0_0 Ax0_1 lx0_1 cx0_1 x0_2 x0_3 H0 K) : HCall Try.prog base 7 #[(.agg #[(.int .u64 x0_0), (.slice Ax0_1 lx0_1 cx0_1), (.int .i64 x0_2), (.int .i64 x0_3)])] H0 K := spec_of_wpC (n := 13) (ann := privitylaw08_fit.ann) mix Try.func7 (by kernel_rfl) (cast (show privitylaw08_fit.sh base x0_0 Ax0_1 lx0_1 cx0_1 x0_2 x0_3 H0 K = wpC Try.prog base 13 privitylaw08_fit.ann (bodyOf Try.f7) (ofL [(.agg #[(.int .u64 x0_0), (.slice Ax0_1 lx0_1 cx0_1), (.int .i64 x0_2), (.int .i64 x0_3)])]) H0 (retQ Try.prog 13 Try.f7 K) by kernel_rfl) h)
def privitylaw08_made.ann : Ann := ⟨fun k => [], fun k => bif Nat.beq k 18 then true else false, fun k => bif Nat.beq k 6 then [1, 6, 7, 8, 9, 10] else bif Nat.beq k 11 then [1, 6, 7, 8, 9, 11, 12] else bif Nat.beq k 18 then [6, 7, 9, 11] else []⟩
def privitylaw08_many.ann : Ann := ⟨fun k => [], fun k => false, fun k => bif Nat.beq k 3 then [0, 3, 4] else []⟩
def privitylaw08_ReedsolomonOrder.ann : Ann := ⟨fun k => bif Nat.beq k 14 then [] else [], fun k => false, fun k => bif Nat.beq k 4 then [1, 3, 4, 5, 6] else bif Nat.beq k 12 then [4, 8, 11, 13] else []⟩
def privitylaw08_ReedsolomonUnique.ann : Ann := ⟨fun k => bif Nat.beq k 3 then [18] else [], fun k => false, fun k => []⟩
def privitylaw08_ReedsolomonErrorBound.ann : Ann := ⟨fun k => [], fun k => false, fun k => []⟩
def privitylaw08_ReedsolomonLinear.ann : Ann := ⟨fun k => bif Nat.beq k 3 then [] else bif Nat.beq k 9 then [22, 23] else [], fun k => false, fun k => bif Nat.beq k 7 then [2, 5, 6, 7, 8, 9] else []⟩
def privitylaw08_ReedsolomonLinear.P0 (base : Nat) (l : List Value) (H0 : HH) (K : Value → HH → Prop) : Prop := HCodeL Try.prog base 104 (codeAt [.r, .r, .r, .r, .r, .l, .r, .b] (bodyOf Try.f6)) [2, 5, 6, 7, 8, 9] l H0 (qAt Try.prog base 104 privitylaw08_ReedsolomonLinear.ann [.r, .r, .r, .r, .r, .l, .r, .b] [] (bodyOf Try.f6) (retQ Try.prog 104 Try.f6 K))
def privitylaw08_ReedsolomonLinear.sh (base : Nat) (x0_0 : Int) (Ax0_1 : Option Addr) (lx0_1 cx0_1 : Nat) (x0_2 : Int) (x0_3 : Int) (Ax1 : Option Addr) (lx1 cx1 : Nat) (H0 : HH) (K : Value → HH → Prop) : Prop :=
 HRun Try.prog base (Instr.box 25 (.agg #[(.int .u64 x0_0), (.slice Ax0_1 lx0_1 cx0_1), (.int .i64 x0_2), (.int .i64 x0_3)])) H0 fun v1 H2 =>
 ∃ a3 : Addr, v1 = (.pointer ((some a3))) ∧ ∃ n4 : Int, ∃ (A5 : Option Addr) (l5 c5 : Nat), ∃ n6 : Int, ∃ n7 : Int, QRun Try.prog (Instr.loadAt 25 (.pointer ((some a3)))) H2 (.agg #[(.int .u64 n4), (.slice A5 l5 c5), (.int .i64 n6), (.int .i64 n7)]) ∧
 HCall Try.prog base 7 #[(.agg #[(.int .u64 n4), (.slice A5 l5 c5), (.int .i64 n6), (.int .i64 n7)])] H2 fun v8 H9 =>
 ∃ n10 : Int, ∃ (A11 : Option Addr) (l11 c11 : Nat), v8 = (.tuple #[(.int .u64 n10), (.slice A11 l11 c11)]) ∧ HCall Try.prog base 11 #[(.int .u64 n10), (.slice Ax1 lx1 cx1), (.int .i64 5)] H9 fun v12 H13 =>
 ∃ (A14 : Option Addr) (l14 c14 : Nat), v12 = (.slice A14 l14 c14) ∧ ∃ n15 : Int, HCall Try.prog base 13 #[(.slice A14 l14 c14)] H13 (fun v_ H_ => v_ = (.int .i64 n15) ∧ H_ = H13) ∧
 ∃ a16 : Addr, AQ Try.prog (Instr.fieldAt 25 (.pointer ((some a3))) 2) (.pointer ((some a16))) ∧
 ∃ n17 : Int, QRun Try.prog (Instr.loadAt 3 (.pointer ((some a16)))) H13 (.int .i64 n17) ∧
 if (decide ((n15 : Int) > n17)) = true then
 HCall Try.prog base 10 #[] H13 fun v18 H19 =>
 ∃ b20 : Bool, v18 = (.bool b20) ∧ K (.bool b20) H19
 else
 privitylaw08_ReedsolomonLinear.P0 base [(.pointer ((some a3))), (.int .u64 n10), (.slice A11 l11 c11), (.slice A14 l14 c14), (.slice none 0 0), (.int .i64 0)] H13 K
theorem privitylaw08_ReedsolomonLinear.spec {base : Nat} {x0_0 : Int} {Ax0_1 : Option Addr} {lx0_1 cx0_1 : Nat} {x0_2 : Int} {x0_3 : Int} {Ax1 : Option Addr} {lx1 cx1 : Nat} {H0 : HH} {K : Value → HH → Prop} (h : privitylaw08_ReedsolomonLinear.sh base x0_0 Ax0_1 lx0_1 cx0_1 x0_2 x0_3 Ax1 lx1 cx1 H0 K) : HCall Try.prog base 6 #[(.agg #[(.int .u64 x0_0), (.slice Ax0_1 lx0_1 cx0_1), (.int .i64 x0_2), (.int .i64 x0_3)]), (.slice Ax1 lx1 cx1)] H0 K := spec_of_wpC (n := 104) (ann := privitylaw08_ReedsolomonLinear.ann) mix Try.func6 (by kernel_rfl) (cast (show privitylaw08_ReedsolomonLinear.sh base x0_0 Ax0_1 lx0_1 cx0_1 x0_2 x0_3 Ax1 lx1 cx1 H0 K = wpC Try.prog base 104 privitylaw08_ReedsolomonLinear.ann (bodyOf Try.f6) (ofL [(.agg #[(.int .u64 x0_0), (.slice Ax0_1 lx0_1 cx0_1), (.int .i64 x0_2), (.int .i64 x0_3)]), (.slice Ax1 lx1 cx1)]) H0 (retQ Try.prog 104 Try.f6 K) by kernel_rfl) h)
def privitylaw08_ReedsolomonLinear.B0 (base : Nat) (x2 : Addr) (x5 : Int) (Ax6 : Option Addr) (lx6 cx6 : Nat) (Ax7 : Option Addr) (lx7 cx7 : Nat) (Ay8 : Option Addr) (ly8 cy8 : Nat) (y9 : Int) (g : Fr) (N0 : Value → Value → HH → Prop) (H0 : HH) (K : Value → HH → Prop) : Prop :=
 if (decide ((y9 : Int) < (((lx6 : Nat) : Int)))) = true then
 ∃ a21 : Addr, AQ Try.prog (Instr.indexAt 23 (.slice Ax6 lx6 cx6) (.int .i64 y9)) (.pointer ((some a21))) ∧
 ∃ a22 : Addr, AQ Try.prog (Instr.fieldAt 29 (.pointer ((some a21))) 0) (.pointer ((some a22))) ∧
 ∃ n23 : Int, QRun Try.prog (Instr.loadAt 22 (.pointer ((some a22)))) H0 (.int .u64 n23) ∧
 ∃ a24 : Addr, AQ Try.prog (Instr.indexAt 23 (.slice Ax6 lx6 cx6) (.int .i64 y9)) (.pointer ((some a24))) ∧
 ∃ a25 : Addr, AQ Try.prog (Instr.fieldAt 29 (.pointer ((some a24))) 1) (.pointer ((some a25))) ∧
 ∃ n26 : Int, QRun Try.prog (Instr.loadAt 22 (.pointer ((some a25)))) H0 (.int .u64 n26) ∧
 ∃ a27 : Addr, AQ Try.prog (Instr.indexAt 23 (.slice Ax6 lx6 cx6) (.int .i64 y9)) (.pointer ((some a27))) ∧
 ∃ a28 : Addr, AQ Try.prog (Instr.fieldAt 29 (.pointer ((some a27))) 0) (.pointer ((some a28))) ∧
 ∃ n29 : Int, QRun Try.prog (Instr.loadAt 22 (.pointer ((some a28)))) H0 (.int .u64 n29) ∧
 ∃ n30 : Int, HCall Try.prog base 20 #[(.int .u64 x5), (.slice Ax7 lx7 cx7), (.int .u64 n29)] H0 (fun v_ H_ => v_ = (.int .u64 n30) ∧ H_ = H0) ∧
 ∃ n31 : Int, HCall Try.prog base 19 #[(.int .u64 x5), (.int .u64 n26), (.int .u64 n30)] H0 (fun v_ H_ => v_ = (.int .u64 n31) ∧ H_ = H0) ∧
 ∃ n32 : Int, ∃ n33 : Int, AQ Try.prog (Instr.build 29 #[(0, (.int .u64 n23)), (1, (.int .u64 n31))]) (.agg #[(.int .u64 n32), (.int .u64 n33)]) ∧
 HRun Try.prog base (Instr.buildSlice 23 1 #[(0, (.agg #[(.int .u64 n32), (.int .u64 n33)]))]) H0 fun v34 H35 =>
 ∃ (A36 : Option Addr) (l36 c36 : Nat), v34 = (.slice A36 l36 c36) ∧ HRun Try.prog base (Builtin.append_ #[23, 23] 23 #[(.slice Ay8 ly8 cy8), (.slice A36 l36 c36)]) H35 fun v37 H38 =>
 ∃ (A39 : Option Addr) (l39 c39 : Nat), v37 = (.slice A39 l39 c39) ∧ N0 (.slice A39 l39 c39) (.int .i64 ((IntKind.i64.wrap (y9 + 1)))) H38
 else
 ∃ a40 : Addr, AQ Try.prog (Instr.fieldAt 25 (.pointer ((some x2))) 2) (.pointer ((some a40))) ∧
 ∃ n41 : Int, QRun Try.prog (Instr.loadAt 3 (.pointer ((some a40)))) H0 (.int .i64 n41) ∧
 ∃ a42 : Addr, AQ Try.prog (Instr.fieldAt 25 (.pointer ((some x2))) 3) (.pointer ((some a42))) ∧
 ∃ n43 : Int, QRun Try.prog (Instr.loadAt 3 (.pointer ((some a42)))) H0 (.int .i64 n43) ∧
 HCall Try.prog base 8 #[(.int .u64 x5), (.slice Ax6 lx6 cx6), (.int .i64 n41), (.int .i64 n43)] H0 fun v44 H45 =>
 ∃ (A46 : Option Addr) (l46 c46 : Nat), ∃ (A47 : Option Addr) (l47 c47 : Nat), ∃ n48 : Int, v44 = (.tuple #[(.slice A46 l46 c46), (.slice A47 l47 c47), (.int .i64 n48)]) ∧ ∃ a49 : Addr, AQ Try.prog (Instr.fieldAt 25 (.pointer ((some x2))) 2) (.pointer ((some a49))) ∧
 ∃ n50 : Int, QRun Try.prog (Instr.loadAt 3 (.pointer ((some a49)))) H45 (.int .i64 n50) ∧
 ∃ a51 : Addr, AQ Try.prog (Instr.fieldAt 25 (.pointer ((some x2))) 3) (.pointer ((some a51))) ∧
 ∃ n52 : Int, QRun Try.prog (Instr.loadAt 3 (.pointer ((some a51)))) H45 (.int .i64 n52) ∧
 HCall Try.prog base 8 #[(.int .u64 x5), (.slice Ay8 ly8 cy8), (.int .i64 n50), (.int .i64 n52)] H45 fun v53 H54 =>
 ∃ (A55 : Option Addr) (l55 c55 : Nat), ∃ (A56 : Option Addr) (l56 c56 : Nat), ∃ n57 : Int, v53 = (.tuple #[(.slice A55 l55 c55), (.slice A56 l56 c56), (.int .i64 n57)]) ∧ if ((n48 : Int) != n57) = false then
 HCall Try.prog base 16 #[(.slice A47 l47 c47), (.slice A56 l56 c56)] H54 fun v58 H59 =>
 ∃ b60 : Bool, v58 = (.bool b60) ∧ if (!b60) = true then
 K (.bool false) H59
 else
 HCall Try.prog base 10 #[] H59 fun v61 H62 =>
 ∃ b63 : Bool, v61 = (.bool b63) ∧ if b63 = true then
 if ((n48 : Int) != 0) = false then
 HCall Try.prog base 21 #[(.int .u64 x5), (.slice A46 l46 c46), (.slice Ax7 lx7 cx7)] H62 fun v64 H65 =>
 ∃ (A66 : Option Addr) (l66 c66 : Nat), v64 = (.slice A66 l66 c66) ∧ HCall Try.prog base 15 #[(.slice A66 l66 c66), (.slice A55 l55 c55)] H65 fun v67 H68 =>
 ∃ b69 : Bool, v67 = (.bool b69) ∧ K (.bool b69) H68
 else
 K (.bool true) H62
 else
 K (.bool false) H62
 else
 K (.bool false) H54
theorem privitylaw08_ReedsolomonLinear.loop0 {base : Nat} {x2 : Addr} {x5 : Int} {Ax6 : Option Addr} {lx6 cx6 : Nat} {Ax7 : Option Addr} {lx7 cx7 : Nat} {Ay8_i : Option Addr} {ly8_i cy8_i : Nat} {y9_i : Int} {H0 : HH} {K : Value → HH → Prop} (J : Nat → Option Addr → Nat → Nat → Int → HH → Prop) (n : Nat) (h0 : J n Ay8_i ly8_i cy8_i y9_i H0)
    (hs : ∀ (n : Nat) (Ay8 : Option Addr) (ly8 cy8 : Nat) (y9 : Int) (g : Fr) (H0 : HH), J n Ay8 ly8 cy8 y9 H0 → privitylaw08_ReedsolomonLinear.B0 base x2 x5 Ax6 lx6 cx6 Ax7 lx7 cx7 Ay8 ly8 cy8 y9 g (fun w8 w9 H => ∃ n', n' < n ∧ ∃ (Ay8' : Option Addr) (ly8' cy8' : Nat) (y9' : Int), w8 = (.slice Ay8' ly8' cy8') ∧ w9 = (.int .i64 y9') ∧ J n' Ay8' ly8' cy8' y9' H) H0 K) : privitylaw08_ReedsolomonLinear.P0 base [(.pointer ((some x2))), (.int .u64 x5), (.slice Ax6 lx6 cx6), (.slice Ax7 lx7 cx7), (.slice Ay8_i ly8_i cy8_i), (.int .i64 y9_i)] H0 K := by
  refine loop_rule (ann := privitylaw08_ReedsolomonLinear.ann) (body := codeAt [.r, .r, .r, .r, .r, .l, .r, .b, .lp] (bodyOf Try.f6)) mix (by kernel_rfl) 1152921503533105920 (by kernel_rfl) [2, 5, 6, 7] [(.pointer ((some x2))), (.int .u64 x5), (.slice Ax6 lx6 cx6), (.slice Ax7 lx7 cx7)] (by kernel_rfl) (fun fr ⟨e2, e5, e6, e7, e8, e9, _⟩ => ⟨e2, e5, e6, e7, trivial⟩) (fun n g H => ∃ (Ay8 : Option Addr) (ly8 cy8 : Nat) (y9 : Int), g 8 = (.slice Ay8 ly8 cy8) ∧ g 9 = (.int .i64 y9) ∧ J n Ay8 ly8 cy8 y9 H) n (fun fr ⟨e2, e5, e6, e7, e8, e9, _⟩ => ⟨Ay8_i, ly8_i, cy8_i, y9_i, e8, e9, h0⟩) ?_
  rintro n g H0 ⟨e2, e5, e6, e7, _⟩ ⟨Ay8, ly8, cy8, y9, e8, e9, hJ⟩
  rw [← ov_eq (g := g) [(2, (.pointer ((some x2)))), (5, (.int .u64 x5)), (6, (.slice Ax6 lx6 cx6)), (7, (.slice Ax7 lx7 cx7)), (8, (.slice Ay8 ly8 cy8)), (9, (.int .i64 y9))] (by simp only [List.mem_cons, List.not_mem_nil, or_false, forall_eq_or_imp, forall_eq, false_implies, implies_true]; exact ⟨e2, e5, e6, e7, e8, e9⟩)]
  have key : ∀ NN : Value → Value → HH → Prop, privitylaw08_ReedsolomonLinear.B0 base x2 x5 Ax6 lx6 cx6 Ax7 lx7 cx7 Ay8 ly8 cy8 y9 g NN H0 K = wpC Try.prog base 104 privitylaw08_ReedsolomonLinear.ann (codeAt [.r, .r, .r, .r, .r, .l, .r, .b, .lp] (bodyOf Try.f6)) (ov g [(2, (.pointer ((some x2)))), (5, (.int .u64 x5)), (6, (.slice Ax6 lx6 cx6)), (7, (.slice Ax7 lx7 cx7)), (8, (.slice Ay8 ly8 cy8)), (9, (.int .i64 y9))]) H0 (thenQ (fun fr H => NN (fr 8) (fr 9) H) (qAt Try.prog base 104 privitylaw08_ReedsolomonLinear.ann [.r, .r, .r, .r, .r, .l, .r, .b] [] (bodyOf Try.f6) (retQ Try.prog 104 Try.f6 K))) := fun NN => by kernel_rfl
  refine cast ?_ (hs n Ay8 ly8 cy8 y9 g H0 hJ)
  refine (key (fun w8 w9 H => ∃ n', n' < n ∧ ∃ (Ay8' : Option Addr) (ly8' cy8' : Nat) (y9' : Int), w8 = (.slice Ay8' ly8' cy8') ∧ w9 = (.int .i64 y9') ∧ J n' Ay8' ly8' cy8' y9' H)).trans ?_
  kernel_rfl
end Go.Proofs.Ytbogcgkeabkliac.HL
end
section
set_option linter.unusedVariables false
namespace Go.Proofs.Ytbogcgkeabkliac.HL
open Go Go.RowKit Go.Proofs.YtbogcgkeabkliacW.PrintWords Go.Proofs.YtbogcgkeabkliacW.PrintMore Go.Proofs.Ytbogcgkeabkliac.PF Go.Proofs.YtbogcgkeabkliacNum Go.Proofs.Ytbogcgkeabkliac.FEv
theorem enters {P : Program} {f : FuncId} {fn : Func} (hf : P.funcs[f]? = some fn) (hc : (fn.name != "runtime.NumGoroutine" && fn.body.isSome) = true) {args : Array Value} (W : World) : (callFunc f args).run P W = .ok (.enter f args) W := by
  simp only [Bool.and_eq_true, bne_iff_ne, ne_eq] at hc
  obtain ⟨hc1, hc2⟩ := hc
  obtain ⟨c, hb⟩ := Option.isSome_iff_exists.1 hc2
  simp [callFunc, hf, hb, hc1]
theorem To.below {base : Nat} {H : HH} {W W' : World} (hs : Sat H W) (h : Below W.heap.size W W') : To base H W H W' :=
  ⟨h.os, h.tape, h.output, h.size, fun k hk _ => h.block k hk, fun b o hb => (h.block b (Array.getElem?_eq_some_iff.1 (hs b o hb)).1).trans (hs b o hb), fun _ _ h => h⟩
theorem HCall.of {P : Program} {base : Nat} {f : FuncId} {args : Array Value} {H : HH} {v : Value} (he : ∀ W, (callFunc f args).run P W = .ok (.enter f args) W) (h : ∀ W, Calls P f args W fun e w' => e = .returned v ∧ Below W.heap.size W w') : HCall P base f args H fun v' H' => v' = v ∧ H' = H :=
  ⟨he, fun W hs hb => (h W).mono fun e W' ⟨h1, h2⟩ => ⟨v, H, h1, ⟨rfl, rfl⟩, .below hs h2⟩⟩
theorem HCall.drew {P : Program} {base : Nat} {f : FuncId} {args : Array Value} {H : HH} {v : Value} (he : ∀ W, (callFunc f args).run P W = .ok (.enter f args) W) (h : ∀ W, Calls P f args W fun e w' => e = .returned v ∧ Drawn0 W w') : HCall P base f args H fun v' H' => v' = v ∧ H' = H :=
  .of he fun W => (h W).mono fun e W' ⟨h1, h2⟩ => ⟨h1, h2.below⟩
theorem HCall.to {P : Program} {base : Nat} {f : FuncId} {args : Array Value} {H : HH} {v : Value} {K : Value → HH → Prop} (h : HCall P base f args H fun v' H' => v' = v ∧ H' = H) (hk : K v H) : HCall P base f args H K :=
  h.use fun v' H' ⟨h1, h2⟩ => by subst h1; subst h2; exact hk
section
variable {p : Nat} [NeZero p] {base : Nat} {H : HH} {K : Value → HH → Prop}
theorem h_add (hp : Sup p) (a b : Fin p) (hk : K (.int .u64 (V (a + b))) H) : HCall Try.prog base 47 #[.int .u64 p, .int .u64 (V a), .int .u64 (V b)] H K := by
  obtain ⟨k, hk'⟩ := (add_ev hp a b).rounds
  exact (HCall.drew (enters Try.func47 (by kernel_rfl)) (fun W => field_Add.calls k _ _ _ _ W hk')).to hk
theorem h_mul (hp : Sup p) (a b : Fin p) (hk : K (.int .u64 (V (a * b))) H) : HCall Try.prog base 33 #[.int .u64 p, .int .u64 (V a), .int .u64 (V b)] H K := by
  obtain ⟨k, hk'⟩ := (mul_ev hp a b).rounds
  exact (HCall.drew (enters Try.func33 (by kernel_rfl)) (fun W => field_Mul.calls k _ _ _ _ W hk')).to hk
theorem h_sub (hp : Sup p) (a b : Fin p) (hk : K (.int .u64 (V (a - b))) H) : HCall Try.prog base 38 #[.int .u64 p, .int .u64 (V a), .int .u64 (V b)] H K := by
  obtain ⟨k, hk'⟩ := (sub_ev hp a b).rounds
  exact (HCall.drew (enters Try.func38 (by kernel_rfl)) (fun W => field_Sub.calls k _ _ _ _ W hk')).to hk
theorem h_neg (hp : Sup p) (a : Fin p) (hk : K (.int .u64 (V (-a))) H) : HCall Try.prog base 34 #[.int .u64 p, .int .u64 (V a)] H K :=
  (HCall.drew (enters Try.func34 (by kernel_rfl)) (fun W => field_Neg.calls _ _ _ W (neg_eq hp a))).to hk
theorem h_inv (hp : Sup p) {a : Fin p} (ha : a ≠ 0) (hk : K (.tuple #[.int .u64 (V (inv a)), .int .i64 0]) H) : HCall Try.prog base 37 #[.int .u64 p, .int .u64 (V a)] H K := by
  obtain ⟨k, hk'⟩ := (inverse_ev hp ha).rounds
  exact (HCall.drew (enters Try.func37 (by kernel_rfl)) (fun W => field_Inverse.calls k _ _ _ _ W hk')).to hk
theorem h_radd (hp : Sup p) (a b : Fin p) (hk : K (.int .u64 (V (a + b))) H) : HCall Try.prog base 19 #[.int .u64 p, .int .u64 (V a), .int .u64 (V b)] H K := by
  obtain ⟨k, hk'⟩ := (ref_add_ev hp a b).rounds
  exact (HCall.drew (enters Try.func19 (by kernel_rfl)) (fun W => privityref01_Add.calls _ _ _ _ W hk')).to hk
theorem h_rmul (hp : Sup p) (a b : Fin p) (hk : K (.int .u64 (V (a * b))) H) : HCall Try.prog base 30 #[.int .u64 p, .int .u64 (V a), .int .u64 (V b)] H K := by
  obtain ⟨k, hk'⟩ := (ref_mul_ev hp a b).rounds
  exact (HCall.drew (enters Try.func30 (by kernel_rfl)) (fun W => privityref01_Mul.calls k _ _ _ _ W hk')).to hk
end
end Go.Proofs.Ytbogcgkeabkliac.HL
end
section
set_option linter.unusedVariables false
namespace Go.Proofs.Ytbogcgkeabkliac.HL
open Go
theorem aq_ix {P : Program} {t e sz : Nat} (ht : P.underlying t = some (.slice e)) (hs : (P.info? e).map (·.size) = some sz) {ad : Addr} {n c : Nat} {k : IntKind} {i : Int} (h0 : 0 ≤ i) (h1 : i < n) :
    AQ P (Instr.indexAt t (.slice (some ad) n c) (.int k i)) (.pointer (some (ad.add (i.toNat * sz)))) := fun W => by
  simp [Instr.indexAt, run_under ht, asIntOf, h0, h1, run_sz hs]
theorem info22 : (Try.prog.info? 22).map (·.size) = some 1 := by kernel_rfl
theorem info32 : (Try.prog.info? 30).map (·.size) = some 1 := by kernel_rfl
theorem info3 : (Try.prog.info? 3).map (·.size) = some 1 := by kernel_rfl
theorem sc22 : scalarB Try.prog 22 = true := by kernel_rfl
theorem sc32 : scalarB Try.prog 30 = true := by kernel_rfl
theorem sc23 : scalarB Try.prog 67 = true := by kernel_rfl
theorem sc3 : scalarB Try.prog 3 = true := by kernel_rfl
theorem un32 : Try.prog.underlying 30 = some (.slice 22) := by kernel_rfl
theorem un23 : Try.prog.underlying 67 = some (.slice 30) := by kernel_rfl
theorem un57 : Try.prog.underlying 31 = some (.slice 3) := by kernel_rfl
theorem w63 {n : Int} (h0 : 0 ≤ n) (h1 : n < 9223372036854775807) : IntKind.i64.wrap (n + 1) = n + 1 := by
  unfold IntKind.wrap
  simp [IntKind.bits, IntKind.signed]
  omega
theorem Rd.at {H : HH} {A : Option Addr} {xs : List Value} (h : Rd H A xs) {i : Nat} {u : Value} (hu : xs[i]? = some u) : ∃ ad, A = some ad ∧ cellH H (ad.add i) = some u := h.get hu
/-- Words as values. -/
def us (l : List Int) : List Value := l.map (Value.int .u64)
def is (l : List Int) : List Value := l.map (Value.int .i64)
@[simp] theorem us_length (l : List Int) : (us l).length = l.length := by simp [us]
def Row (H : HH) (A : Option Addr) (n : Nat) (l : List Int) : Prop := n = l.length ∧ Rd H A (us l)
def Mat (H : HH) (A : Option Addr) (n : Nat) (m : List (List Int)) : Prop := n = m.length ∧ ∃ rs : List Value, rs.length = m.length ∧ Rd H A rs ∧ ∀ (i : Nat) (l : List Int), m[i]? = some l → ∃ A' c, rs[i]? = some (.slice A' l.length c) ∧ Rd H A' (us l)
section
variable {H : HH} {A : Option Addr} {n c : Nat} {l : List Int} {m : List (List Int)} {i : Int}
theorem Row.ext {H' : HH} (h : Row H A n l) (he : Ext H H') : Row H' A n l := ⟨h.1, h.2.ext he⟩
theorem Mat.ext {H' : HH} (h : Mat H A n m) (he : Ext H H') : Mat H' A n m := by
  obtain ⟨h1, rs, h2, h3, h4⟩ := h
  exact ⟨h1, rs, h2, h3.ext he, fun i l hl => by obtain ⟨A', c, h5, h6⟩ := h4 i l hl; exact ⟨A', c, h5, h6.ext he⟩⟩
theorem Row.nil : Row H none 0 [] := ⟨rfl, .inl rfl⟩
theorem Mat.nil : Mat H none 0 [] := ⟨rfl, [], rfl, .inl rfl, fun i l h => by simp at h⟩
theorem Row.at (h : Row H A n l) (c : Nat) (h0 : 0 ≤ i) (h1 : i < n) : ∃ a, AQ Try.prog (Instr.indexAt 30 (.slice A n c) (.int .i64 i)) (.pointer (some a)) ∧ QRun Try.prog (Instr.loadAt 22 (.pointer (some a))) H (.int .u64 (l.getD i.toNat 0)) := by
  obtain ⟨e, h⟩ := h
  have hi : i.toNat < l.length := by omega
  obtain ⟨ad, rfl, hc⟩ := h.at (i := i.toNat) (u := .int .u64 (l.getD i.toNat 0)) (by simp [us, hi])
  exact ⟨_, aq_ix un32 info22 h0 h1, q_ld sc22 (by rw [Nat.mul_one]; exact hc)⟩
theorem Mat.at (h : Mat H A n m) (c : Nat) (h0 : 0 ≤ i) (h1 : i < n) : ∃ a, AQ Try.prog (Instr.indexAt 67 (.slice A n c) (.int .i64 i)) (.pointer (some a)) ∧ ∃ A' c', QRun Try.prog (Instr.loadAt 30 (.pointer (some a))) H (.slice A' (m.getD i.toNat []).length c') ∧ Row H A' (m.getD i.toNat []).length (m.getD i.toNat []) := by
  obtain ⟨e, rs, h2, h3, h4⟩ := h
  have hi : i.toNat < m.length := by omega
  obtain ⟨A', c', h5, h6⟩ := h4 i.toNat (m.getD i.toNat []) (by simp [hi])
  obtain ⟨ad, rfl, hc⟩ := h3.at h5
  exact ⟨_, aq_ix un23 info32 h0 h1, A', c', q_ld sc32 (by rw [Nat.mul_one]; exact hc), rfl, h6⟩
theorem getD_cons_drop {α : Type} {l : List α} {i : Nat} (h : i < l.length) (d : α) : l.drop i = l.getD i d :: l.drop (i + 1) := by
  rw [List.drop_eq_getElem_cons h]
  simp [h]
end
end Go.Proofs.Ytbogcgkeabkliac.HL
end
section
set_option linter.unusedVariables false
set_option linter.unusedSimpArgs false
namespace Go.Proofs.Ytbogcgkeabkliac.HL
open Go
theorem nxt {j n : Nat} (h : j < n) (hn : n ≤ maxLen) : IntKind.i64.wrap ((j : Int) + 1) = ((j + 1 : Nat) : Int) := by
  rw [w63 (by omega) (by unfold maxLen at hn; omega)]; omega
theorem take_eq_succ {α : Type} {l l' : List α} {j : Nat} (h : l.take j = l'.take j) (h1 : j < l.length) (h2 : j < l'.length) {d : α} (e : l.getD j d = l'.getD j d) : l.take (j + 1) = l'.take (j + 1) := by
  rw [List.take_add_one, List.take_add_one, h, List.getElem?_eq_getElem h1, List.getElem?_eq_getElem h2]
  simp [h1, h2] at e
  rw [e]
section
end
end Go.Proofs.Ytbogcgkeabkliac.HL
end
section
set_option linter.unusedVariables false
set_option linter.unusedSimpArgs false
namespace Go.Proofs.Ytbogcgkeabkliac.HL
open Go
section
variable {base : Nat} {H : HH} {K : Value → HH → Prop} {A A' : Option Addr} {n n' c c' : Nat} {m : List (List Int)}
/-- No sizes that no machine has. -/
def Sz (m : List (List Int)) : Prop := m.length ≤ maxLen ∧ ∀ r ∈ m, r.length ≤ maxLen
theorem Sz.at (h : Sz m) {j : Nat} (hj : j < m.length) : (m.getD j []).length ≤ maxLen := h.2 _ (by simp [hj])
theorem all_false {α : Type} {f : α → Bool} {m : List α} {j : Nat} {d : α} (hj : j < m.length) (h : f (m.getD j d) = false) : m.all f = false := by
  rw [List.all_eq_false]
  exact ⟨m.getD j d, by simp [hj], by rw [h]; exact Bool.false_ne_true⟩
theorem all_take {α : Type} {f : α → Bool} {m : List α} {j : Nat} {d : α} (hj : j < m.length) (h : (m.take j).all f = true) (h1 : f (m.getD j d) = true) : (m.take (j + 1)).all f = true := by
  rw [List.take_add_one, List.all_append, h, List.getElem?_eq_getElem hj]
  simp [hj] at h1
  simp [h1]
theorem all_done {α : Type} {f : α → Bool} {m : List α} {j : Nat} (hj : m.length ≤ j) (h : (m.take j).all f = true) : m.all f = true := by rwa [List.take_of_length_le hj] at h
/-- Every row is as long as the first. -/
def rectB (m : List (List Int)) : Bool := m.all fun r => decide (r.length = (m.getD 0 []).length)
def colsN (m : List (List Int)) : Nat := (m.getD 0 []).length
theorem h_cols (h : Mat H A n m) (hk : K (.int .i64 (colsN m)) H) : HCall Try.prog base 43 #[.slice A n c] H K := by
  refine matrix_cols.spec ?_
  unfold matrix_cols.sh
  have e1 := h.1
  split
  · rename_i e
    have : m = [] := List.eq_nil_of_length_eq_zero (by simp at e; omega)
    subst this
    exact hk
  · rename_i e
    have e0 : 0 < n := by simp at e; omega
    obtain ⟨a, p1, A1, c1, p2, p3⟩ := h.at c (i := 0) (by omega) (by omega)
    exact ⟨a, p1, _, _, _, p2, hk⟩
/-- rect's closure: it reads m in its box. -/
theorem h_rect1 {x : Addr} {r : List Int} {k : Nat} (hb : cellH H x = some (.slice A n c)) (h : Mat H A n m) (h0 : 0 < n) (hr : Row H A' k r) (hk : K (.bool ((r.length : Int) != (colsN m : Int))) H) : HCall Try.prog base 51 #[.slice A' k c', .pointer (some x)] H K := by
  refine matrix_rect_1.spec ?_
  unfold matrix_rect_1.sh
  obtain ⟨a, p1, A1, c1, p2, p3⟩ := h.at c (i := 0) (by omega) (by omega)
  exact ⟨_, _, _, q_ld sc23 hb, a, p1, _, _, _, p2, by rw [hr.1]; exact hk⟩
theorem h_index {x : Addr} (hb : cellH H x = some (.slice A n c)) (h : Mat H A n m) (hz : Sz m) (hk : ∀ i : Int, (0 ≤ i ↔ rectB m = false) → K (.int .i64 i) H) : HCall Try.prog base 54 #[.slice A n c, .func (.func 51) #[] #[.pointer (some x)]] H K := by
  refine slices_IndexFunc_LLuint64_Luint64.spec ?_
  unfold slices_IndexFunc_LLuint64_Luint64.sh
  have e1 := h.1
  have e2 := hz.1
  refine slices_IndexFunc_LLuint64_Luint64.loop0 (fun k y H' => H' = H ∧ ∃ j : Nat, y = j ∧ j ≤ n ∧ k = n - j ∧ ((m.take j).all fun r => decide (r.length = (m.getD 0 []).length)) = true) n ⟨rfl, 0, rfl, Nat.zero_le _, by omega, by simp⟩ ?_
  rintro k y g H' ⟨rfl, j, rfl, hj, hm', ht⟩
  unfold slices_IndexFunc_LLuint64_Luint64.B0
  split
  · rename_i e
    have e := of_decide_eq_true e
    obtain ⟨b, q1, A2, c2, q2, q3⟩ := h.at c (i := j) (by omega) e
    refine ⟨b, q1, _, _, _, q2, ?_⟩
    refine h_rect1 hb h (by omega) q3 ⟨_, rfl, ?_⟩
    rw [Int.toNat_natCast]
    split
    · rename_i e4
      have : rectB m = false := all_false (j := j) (d := []) (by omega) (by unfold colsN at e4; simp at e4 ⊢; omega)
      exact hk _ (by simp [this])
    · rename_i e4
      exact ⟨k - 1, by omega, _, rfl, rfl, j + 1, nxt (n := n) (by omega) (by omega), by omega, by omega, all_take (d := []) (by omega) ht (by unfold colsN at e4; simp at e4 ⊢; omega)⟩
  · rename_i e
    have e : ¬ ((j : Int) < (n : Int)) := fun h => e (decide_eq_true h)
    have : rectB m = true := all_done (by omega) ht
    exact hk _ (by simp [this])
theorem h_rect (h : Mat H A n m) (hz : Sz m) (hk : K (.bool (rectB m)) H) : HCall Try.prog base 42 #[.slice A n c] H K := by
  refine (HCall.less (Q := fun v H' => v = .bool (rectB m)) ?_).use (fun v H' ⟨h1, h2⟩ => by subst h1; rw [h2]; exact hk)
  refine matrix_rect.spec ?_
  unfold matrix_rect.sh
  refine h_box (fun b hb _ => ⟨_, rfl, ?_⟩)
  have he : Ext H (upd H b (.cells (Value.slice A n c).cells 67)) := Ext.upd hb _
  have hc : cellH (upd H b (.cells (Value.slice A n c).cells 67)) ⟨b, 0, none⟩ = some (.slice A n c) := by rw [cellH_blk (upd_self _ _ _)]; rfl
  refine ⟨_, _, _, q_ld sc23 hc, ?_⟩
  refine slices_ContainsFunc_LLuint64_Luint64.spec ?_
  unfold slices_ContainsFunc_LLuint64_Luint64.sh
  refine h_index hc (h.ext he) hz (fun i hi => ⟨_, rfl, ⟨_, rfl, he, ?_⟩⟩)
  by_cases e : rectB m = true
  · rw [decide_eq_false (by have : ¬ 0 ≤ i := fun h => by rw [e] at hi; simp at hi; omega
                            omega), e]; rfl
  · have e : rectB m = false := by simpa using e
    rw [decide_eq_true (hi.2 e), e]; rfl
end
end Go.Proofs.Ytbogcgkeabkliac.HL
end
section
set_option linter.unusedVariables false
set_option linter.unusedSimpArgs false
namespace Go.Proofs.Ytbogcgkeabkliac.HL
open Go
theorem Grows.trans_ext {H H1 H2 : HH} {v v' : Value} (he : Ext H H1) (h : Grows H1 H2 v v') : Grows H H2 v v' :=
  ⟨fun b o hb ho => h.keep b o hb (he b o ho), h.at_.imp id (fun k b hb => he.none (k b hb))⟩
section
variable {P : Program} {base : Nat} {H : HH}
theorem h_push {t e by_ ty : Nat} {z : Value} (ht : P.underlying t = some (.slice e)) (hi : (P.info? e).map (fun i => (i.zero, i.size, i.bytes)) = some (some z, 1, by_)) (hz : z.cells = #[z]) (hby : by_ ≤ 128) {u v : Value} (hu : u.oneCell' = true) {n : Nat} {xs : List Value}
    (ho : Own base H e 1 v n xs) (hlim : n + 1 < 1099511627776) {C : Option Addr → Nat → Nat → HH → Prop}
    (h : ∀ A' c' H', Own base H' e 1 (.slice A' (n + 1) c') (n + 1) (xs ++ [u]) → Grows H H' v (.slice A' (n + 1) c') → C A' (n + 1) c' H') :
    HRun P base (Instr.buildSlice t 1 #[(0, u)]) H fun v1 H1 => ∃ (A : Option Addr) (l c : Nat), v1 = .slice A l c ∧ HRun P base (Builtin.append_ #[t, t] ty #[v, .slice A l c]) H1 fun v2 H2 => ∃ (A' : Option Addr) (l' c' : Nat), v2 = .slice A' l' c' ∧ C A' l' c' H2 := by
  have hc : u.cells = #[u] := by cases u <;> first | rfl | (simp [Value.oneCell'] at hu)
  have hfill : Instr.fill (fun i => some (i * 1, 1)) (madeCells z.cells (1 * 1)) [(0, u)] = some #[u] := by
    simp [Instr.fill, madeCells, hz, hc, show Array.range 1 = #[0] from by decide]
  refine h_lit (sz := 1) (z := z) (cs := #[u]) ht ?_ (by decide) hfill (by decide) (fun b hb hbase => ?_)
  · obtain ⟨i, h1, h2⟩ := Option.map_eq_some_iff.1 hi
    simp only [Prod.mk.injEq] at h2
    rw [h1]; simp [h2]
  · have he : Ext H (upd H b (.cells #[u] e)) := Ext.upd hb _
    refine ⟨_, _, _, rfl, h_app (m := 1) (ys := [u]) ht hi (by rw [hz]; rfl) (by decide) (ho.ext he) ?_ (by simp) (by simpa using hu) (by simp) (by omega) hby (fun A' c' H' h1 h2 => ⟨_, _, _, rfl, h A' c' H' h1 (h2.trans_ext he)⟩)⟩
    refine .inr ⟨_, rfl, fun i w hw => ?_⟩
    match i, hw with
    | 0, hw =>
      cases hw
      show cellH _ ((⟨b, 0, none⟩ : Addr).add 0) = _
      simp [Addr.add, cellH, upd_self]
end
/-- F is known in H, and v's block is not in F. -/
structure Frz (F H : HH) (v : Value) : Prop where
  ext : Ext F H
  off : ∀ b, v.ownBlock = some b → F b = none
section
variable {F H H' : HH} {v v' : Value}
theorem Frz.nil (H : HH) : Frz H H (.slice none 0 0) := ⟨.refl H, fun b hb => by simp [Value.ownBlock] at hb⟩
theorem Frz.grow (h : Frz F H v) (g : Grows H H' v v') : Frz F H' v' :=
  ⟨fun b o hb => g.keep b o (fun e => by rw [h.off b e] at hb; cases hb) (h.ext b o hb), fun b hb => by
    rcases g.at_ with e | e
    · exact h.off b (e ▸ hb)
    · exact h.ext.none (e b hb)⟩
theorem Frz.more (h : Frz F H v) (he : Ext H H') : Frz F H' v := ⟨h.ext.trans he, h.off⟩
/-- A finished row joins what is frozen. -/
theorem freeze {base T n : Nat} {xs : List Value} {w : Value} (hw : Frz F H w) (hv : Frz F H v) (ho : Own base H T 1 v n xs) (hd : ∀ b, w.ownBlock = some b → v.ownBlock ≠ some b) :
    ∃ F', Ext F F' ∧ Frz F' H w ∧ ∃ A c, v = .slice A n c ∧ Rd F' A xs := by
  obtain ⟨h1, h2⟩ := ho
  rcases h2 with ⟨rfl, rfl⟩ | ⟨g, cap, cur, rfl, hb, hg, r1, r2, r3, r4⟩
  · exact ⟨F, .refl F, hw, none, 0, rfl, .inl (List.eq_nil_of_length_eq_zero (by rw [h1, Nat.zero_mul]))⟩
  · have hn : F g = none := hv.off g (by simp [Value.ownBlock])
    refine ⟨upd F g (.cells cur T (0, 0)), Ext.upd hn _, ⟨fun b o h => ?_, fun b h => ?_⟩, _, _, rfl, .inr ⟨_, rfl, fun i u hu => ?_⟩⟩
    · by_cases e : b = g
      · subst e; rw [upd_self] at h; cases h; exact hg
      · rw [upd_ne _ e] at h; exact hw.ext b o h
    · rw [upd_ne _ (fun e => by subst e; exact hd _ h (by simp [Value.ownBlock]))]; exact hw.off b h
    · have hadd : (⟨g, 0, none⟩ : Addr).add i = ⟨g, i, none⟩ := by unfold Addr.add; split <;> simp_all
      rw [hadd, cellH_blk (upd_self _ _ _), ← Array.getElem?_toList]
      rw [← r4, List.getElem?_take] at hu
      split at hu
      · exact hu
      · cases hu
end
end Go.Proofs.Ytbogcgkeabkliac.HL
end
section
set_option linter.unusedVariables false
set_option linter.unusedSimpArgs false
set_option linter.unusedSectionVars false
namespace Go.Proofs.Ytbogcgkeabkliac.HL
open Go Go.Proofs.YtbogcgkeabkliacNum Go.Proofs.Ytbogcgkeabkliac.FEv
theorem inf22 : (Try.prog.info? 22).map (fun i => (i.zero, i.size, i.bytes)) = some (some (.int .u64 0), 1, 8) := by kernel_rfl
theorem inf32 : (Try.prog.info? 30).map (fun i => (i.zero, i.size, i.bytes)) = some (some (.slice none 0 0), 1, 24) := by kernel_rfl
theorem inf3 : (Try.prog.info? 3).map (fun i => (i.zero, i.size, i.bytes)) = some (some (.int .i64 0), 1, 8) := by kernel_rfl
section
variable {p : Nat} [NeZero p]
def vs (l : List (Fin p)) : List Int := l.map V
def ms (m : List (List (Fin p))) : List (List Int) := m.map vs
@[simp] theorem vs_length (l : List (Fin p)) : (vs l).length = l.length := by simp [vs]
@[simp] theorem ms_length (m : List (List (Fin p))) : (ms m).length = m.length := by simp [ms]
theorem vs_get (l : List (Fin p)) (j : Nat) : (vs l).getD j 0 = V (cf l j) := by
  unfold vs cf
  rw [List.getD_eq_getElem?_getD, List.getD_eq_getElem?_getD, List.getElem?_map]
  cases l[j]? <;> rfl
theorem ms_get (m : List (List (Fin p))) (j : Nat) : (ms m).getD j [] = vs (rowL m j) := by
  unfold ms rowL
  rw [List.getD_eq_getElem?_getD, List.getD_eq_getElem?_getD, List.getElem?_map]
  cases m[j]? <;> rfl
theorem vs_inj {l l' : List (Fin p)} (h : vs l = vs l') : l = l' := by
  unfold vs at h
  exact (List.map_inj_right (fun a b h => V_inj.1 h)).1 h
theorem take_succ_map {α β : Type} (f : α → β) {l : List α} {j : Nat} (h : j < l.length) (d : α) : (l.take (j + 1)).map f = (l.take j).map f ++ [f (l.getD j d)] := by
  have : l.take (j + 1) = l.take j ++ [l.getD j d] := by
    rw [List.take_add_one, List.getElem?_eq_getElem h, List.getD_eq_getElem?_getD, List.getElem?_eq_getElem h]
    rfl
  rw [this, List.map_append]
  rfl
theorem us_snoc (l : List Int) (x : Int) : us (l ++ [x]) = us l ++ [.int .u64 x] := by simp [us]
theorem vs_snoc (l : List (Fin p)) (x : Fin p) : vs (l ++ [x]) = vs l ++ [V x] := by simp [vs]
def Sm (m : List (List (Fin p))) : Prop := m.length ≤ 1000 ∧ ∀ r ∈ m, r.length ≤ 1000
theorem Sm.sz {m : List (List (Fin p))} (h : Sm m) : Sz (ms m) := ⟨by rw [ms_length]; have := h.1; unfold maxLen; omega, fun r hr => by
  obtain ⟨a, ha, rfl⟩ := List.mem_map.1 hr
  have := h.2 a ha
  rw [vs_length]; unfold maxLen; omega⟩
theorem Sm.row {m : List (List (Fin p))} (h : Sm m) {j : Nat} (hj : j < m.length) : (rowL m j).length ≤ 1000 := h.2 _ (by rw [rowL_lt hj]; exact List.getElem_mem hj)
theorem rectB_ms {m : List (List (Fin p))} : rectB (ms m) = true ↔ ∀ r ∈ m, r.length = (rowL m 0).length := by
  unfold rectB
  rw [ms_get, vs_length, List.all_eq_true]
  unfold ms
  constructor
  · intro h r hr
    have := h (vs r) (List.mem_map_of_mem hr)
    simpa using this
  · rintro h x hx
    obtain ⟨r, hr, rfl⟩ := List.mem_map.1 hx
    simpa using h r hr
theorem colsN_ms (m : List (List (Fin p))) : colsN (ms m) = (rowL m 0).length := by unfold colsN; rw [ms_get, vs_length]
def dotL (a b : List (Fin p)) : Fin p := sumF a.length fun i => cf a i * cf b i
section
variable {base : Nat} {H : HH} {K : Value → HH → Prop} {A A' : Option Addr} {n n' c c' : Nat}
theorem Own.row {n : Nat} {l : List Int} (h : Own base H 22 1 (.slice A n c) n (us l)) : Row H A n l := by
  obtain ⟨A', c', e, _, h2⟩ := h.slice
  cases e
  exact ⟨by have := h.1; rw [us_length] at this; omega, h2⟩
end
end
end Go.Proofs.Ytbogcgkeabkliac.HL
end
section
set_option linter.unusedVariables false
set_option linter.unusedSimpArgs false
set_option linter.unusedSectionVars false
namespace Go.Proofs.Ytbogcgkeabkliac.HL
open Go Go.Proofs.YtbogcgkeabkliacNum Go.Proofs.Ytbogcgkeabkliac.FEv
section
variable {P : Program} {base : Nat} {H F : HH}
theorem Own.at {e n c : Nat} {A : Option Addr} {xs : List Value} (h : Own base H e 1 (.slice A n c) n xs) {j : Nat} (hj : j < n) : ∃ g cur, A = some ⟨g, 0, none⟩ ∧ base ≤ g ∧ H g = some (.cells cur e (0, 0)) ∧ j < cur.size ∧ ∀ (i : Nat) (u : Value), xs[i]? = some u → cur[i]? = some u := by
  obtain ⟨g, cap, cur, e1, e2, e3, e4, e5, e6⟩ := h.form (by omega)
  cases e1
  exact ⟨g, cur, rfl, e2, e3, by omega, e6⟩
theorem aq_own {t e : Nat} (ht : P.underlying t = some (.slice e)) (hs : (P.info? e).map (·.size) = some 1) {g n c : Nat} {k : IntKind} {j : Nat} (hj : j < n) : AQ P (Instr.indexAt t (.slice (some ⟨g, 0, none⟩) n c) (.int k j)) (.pointer (some ⟨g, j, none⟩)) := by
  have := aq_ix (ad := ⟨g, 0, none⟩) (c := c) (k := k) ht hs (i := j) (by omega) (n := n) (by omega)
  have e : (⟨g, 0, none⟩ : Addr).add ((j : Int).toNat * 1) = ⟨g, j, none⟩ := by rw [Int.toNat_natCast, Nat.mul_one]; unfold Addr.add; split <;> simp_all
  rwa [e] at this
theorem Frz.upd {v : Value} (h : Frz F H v) {g : Nat} (hg : F g = none) (o : Obj) : Frz F (upd H g o) v :=
  ⟨fun b x hx => by rw [upd_ne _ (fun e => by rw [e, hg] at hx; cases hx)]; exact h.ext b x hx, h.off⟩
end
/-- A matrix of the call's own, its rows frozen in F. -/
def OwnM (base : Nat) (F H : HH) (v : Value) (n : Nat) (m : List (List Int)) : Prop :=
  ∃ rs : List Value, Own base H 30 1 v n rs ∧ Frz F H v ∧ rs.length = m.length ∧ ∀ (i : Nat) (l : List Int), m[i]? = some l → ∃ A' c, rs[i]? = some (.slice A' l.length c) ∧ Rd F A' (us l)
section
variable {base : Nat} {H F : HH} {A : Option Addr} {n c : Nat} {m : List (List Int)}
theorem OwnM.mat (h : OwnM base F H (.slice A n c) n m) : Mat H A n m := by
  obtain ⟨rs, h1, h2, h3, h4⟩ := h
  obtain ⟨A', c', e, _, h5⟩ := h1.slice
  cases e
  refine ⟨by have := h1.1; omega, rs, h3, h5, fun i l hl => ?_⟩
  obtain ⟨A1, c1, h6, h7⟩ := h4 i l hl
  exact ⟨A1, c1, h6, h7.ext h2.ext⟩
theorem OwnM.nil (base : Nat) (H : HH) : OwnM base H H (.slice none 0 0) 0 [] := ⟨[], Own.nil _ _ _ _, Frz.nil _, rfl, fun i l h => by simp at h⟩
theorem OwnM.froze {F' : HH} {v : Value} (h : OwnM base F H v n m) (he : Ext F F') (hf : Frz F' H v) : OwnM base F' H v n m := by
  obtain ⟨rs, h1, h2, h3, h4⟩ := h
  exact ⟨rs, h1, hf, h3, fun i l hl => by obtain ⟨A1, c1, h6, h7⟩ := h4 i l hl; exact ⟨A1, c1, h6, h7.ext he⟩⟩
/-- A row that is frozen is pushed. -/
theorem h_pushM {K : Option Addr → Nat → Nat → HH → Prop} {v : Value} (h : OwnM base F H v n m) (hlim : n ≤ 1000) {A1 : Option Addr} {n1 c1 : Nat} {l : List Int} (hr : Row F A1 n1 l)
    (hk : ∀ A' c' H', OwnM base F H' (.slice A' (n + 1) c') (n + 1) (m ++ [l]) → Grows H H' v (.slice A' (n + 1) c') → K A' (n + 1) c' H') {ty : Nat} :
    HRun Try.prog base (Instr.buildSlice 67 1 #[(0, .slice A1 n1 c1)]) H fun v1 H1 => ∃ (A : Option Addr) (l c : Nat), v1 = .slice A l c ∧ HRun Try.prog base (Builtin.append_ #[67, 67] ty #[v, .slice A l c]) H1 fun v2 H2 => ∃ (A' : Option Addr) (l' c' : Nat), v2 = .slice A' l' c' ∧ K A' l' c' H2 := by
  obtain ⟨rs, h1, h2, h3, h4⟩ := h
  refine h_push un23 inf32 rfl (by decide) rfl h1 (by omega) (fun A3 c3 H3 ho3 g3 => hk _ _ _ ⟨_, ho3, h2.grow g3, by simp [h3], fun i l' hl => ?_⟩ g3)
  rcases Nat.lt_or_ge i m.length with hi | hi
  · rw [List.getElem?_append_left hi] at hl
    obtain ⟨A4, c4, h6, h7⟩ := h4 i l' hl
    exact ⟨A4, c4, by rw [List.getElem?_append_left (by omega)]; exact h6, h7⟩
  · have hi' : i = m.length := by
      have := (List.getElem?_eq_some_iff.1 hl).1
      rw [List.length_append, List.length_singleton] at this
      omega
    subst hi'
    rw [List.getElem?_append_right (Nat.le_refl _)] at hl
    simp at hl
    subst hl
    refine ⟨A1, c1, ?_, hr.2⟩
    rw [← h3, List.getElem?_append_right (Nat.le_refl _)]
    simp [hr.1]
end
section
end
end Go.Proofs.Ytbogcgkeabkliac.HL
end
section
set_option linter.unusedVariables false
set_option linter.unusedSimpArgs false
set_option linter.unusedSectionVars false
namespace Go.Proofs.Ytbogcgkeabkliac.HL
open Go Go.Proofs.YtbogcgkeabkliacNum Go.Proofs.Ytbogcgkeabkliac.FEv
theorem made1 (z : Value) (q : Nat) : madeCells #[z] q = Array.replicate q z := by
  apply Array.ext'
  rw [madeCells, Array.toList_map, Array.toList_range, Array.toList_replicate]
  apply List.ext_getElem?
  intro i
  rw [List.getElem?_map, List.getElem?_replicate]
  by_cases hi : i < q
  · rw [List.getElem?_eq_getElem (by simpa using hi), if_pos hi]
    simp [Nat.mod_one]
  · rw [List.getElem?_eq_none (by simpa using hi), if_neg hi]; rfl
theorem OwnM.more {base : Nat} {F H H' : HH} {v : Value} {n : Nat} {m : List (List Int)} (h : OwnM base F H v n m) (he : Ext H H') : OwnM base F H' v n m := by
  obtain ⟨rs, h1, h2, h3, h4⟩ := h
  exact ⟨rs, h1.ext he, h2.more he, h3, h4⟩
theorem OwnM.known {base : Nat} {F H : HH} {v : Value} {n : Nat} {m : List (List Int)} (h : OwnM base F H v n m) {b : Nat} (hb : v.ownBlock = some b) : H b ≠ none := by
  obtain ⟨rs, h1, h2, h3, h4⟩ := h
  obtain ⟨_, cur, hc⟩ := h1.known hb
  rw [hc]; simp
theorem OwnM.frz {base : Nat} {F H : HH} {v : Value} {n : Nat} {m : List (List Int)} (h : OwnM base F H v n m) : Frz F H v := h.elim fun _ h => h.2.1
/-- A row built since H: it is frozen, and pushed onto the matrix. -/
theorem h_pushR2 {base : Nat} {F H H2 : HH} {v : Value} {n : Nat} {m : List (List Int)} (h : OwnM base F H v n m) (hlim : n ≤ 1000) {A1 : Option Addr} {n1 c1 : Nat} {l : List Int} (hf : Frz H H2 (.slice A1 n1 c1)) (hr : Own base H2 22 1 (.slice A1 n1 c1) n1 (us l))
    {K : Option Addr → Nat → Nat → HH → Prop} (hk : ∀ F' A' c' H', Ext F F' → OwnM base F' H' (.slice A' (n + 1) c') (n + 1) (m ++ [l]) → K A' (n + 1) c' H') {ty : Nat} :
    HRun Try.prog base (Instr.buildSlice 67 1 #[(0, .slice A1 n1 c1)]) H2 fun v1 H1 => ∃ (A : Option Addr) (l c : Nat), v1 = .slice A l c ∧ HRun Try.prog base (Builtin.append_ #[67, 67] ty #[v, .slice A l c]) H1 fun v2 H2 => ∃ (A' : Option Addr) (l' c' : Nat), v2 = .slice A' l' c' ∧ K A' l' c' H2 := by
  have h2 := h.more hf.ext
  obtain ⟨F', hFF, hfz', A4, c4, e4, hrd⟩ := freeze h2.frz (Frz.mk (h.frz.ext.trans hf.ext) (fun b hb => h.frz.ext.none (hf.off b hb))) hr (fun b hb hb' => h.known hb (hf.off b hb'))
  cases e4
  have e := hr.1
  rw [us_length] at e
  exact h_pushM (h2.froze hFF hfz') hlim ⟨by omega, hrd⟩ (fun A' c' H' h3 _ => hk F' A' c' H' hFF h3)
section
variable {p : Nat} [NeZero p] {base : Nat} {H : HH} {K : Value → HH → Prop} {A A' : Option Addr} {n n' c c' : Nat}
theorem Sm.cols {m : List (List (Fin p))} (h : Sm m) : (rowL m 0).length ≤ 1000 := by
  rcases Nat.eq_zero_or_pos m.length with e | e
  · have : m = [] := List.eq_nil_of_length_eq_zero e
    subst this
    simp [rowL]
  · exact h.row e
/-- What a product asks of its factors. -/
def fits (a b : List (List (Fin p))) : Prop := (∀ r ∈ a, r.length = (rowL a 0).length) ∧ (∀ r ∈ b, r.length = (rowL b 0).length) ∧ (rowL a 0).length = b.length
end
end Go.Proofs.Ytbogcgkeabkliac.HL
end
section
set_option linter.unusedVariables false
set_option linter.unusedSimpArgs false
set_option linter.unusedSectionVars false
namespace Go.Proofs.Ytbogcgkeabkliac.HL
open Go Go.Proofs.YtbogcgkeabkliacNum Go.Proofs.Ytbogcgkeabkliac.FEv
theorem QRun.ext {α : Type} {P : Program} {s : Sem α} {H H' : HH} {v : α} (h : QRun P s H v) (he : Ext H H') : QRun P s H' v := fun W hs => h W (fun b o hb => hs b o (he b o hb))
theorem add0 (g j : Nat) : (⟨g, 0, none⟩ : Addr).add j = ⟨g, j, none⟩ := by unfold Addr.add; split <;> simp_all
theorem set_range {α : Type} {q i : Nat} (f g : Nat → α) (hi : i < q) (x : α) (hx : g i = x) (hg : ∀ k, k < q → k ≠ i → g k = f k) : ((List.range q).map f).set i x = (List.range q).map g := by
  apply List.ext_getElem?
  intro k
  rw [List.getElem?_set, List.getElem?_map, List.getElem?_map, List.length_map, List.length_range]
  by_cases hk : k < q
  · rw [List.getElem?_range hk]
    by_cases e : i = k
    · subst e; rw [if_pos rfl, if_pos hi]; simp [hx]
    · rw [if_neg e]; simp [hg k hk (fun h => e h.symm)]
  · rw [List.getElem?_eq_none (by simpa using hk)]
    split
    · omega
    · rfl
section
variable {p : Nat} [NeZero p] {base : Nat} {H : HH} {K : Value → HH → Prop} {A A' : Option Addr} {n n' c c' : Nat}
theorem us_set (l : List Int) (i : Nat) (x : Int) : (us l).set i (.int .u64 x) = us (l.set i x) := by simp [us, List.map_set]
theorem vs_set (l : List (Fin p)) (i : Nat) (x : Fin p) : (vs l).set i (V x) = vs (l.set i x) := by simp [vs, List.map_set]
end
end Go.Proofs.Ytbogcgkeabkliac.HL
end

/- Part L of: The statement OptimizeDuplicates: the law answers true whatever its arguments; no condition. -/
import Derived.Test.YtjpaichcaaacbaaDoorZOptimizeDuplicatesK
import Derived.Below
import Derived.ProofKit
import Derived.OpenShut
import Derived.ChangeOld
section
set_option linter.unusedVariables false
namespace Go.Proofs.YtjpaichcaaacbaaDoor.HL
open Go Go.RowKit
theorem addr_add (a : Addr) (m n : Nat) : (a.add m).add n = a.add (m + n) := by
  unfold Addr.add
  by_cases hm : m = 0 <;> by_cases hn : n = 0 <;> simp_all [Nat.add_assoc]
/-- All of the heap is known. -/
def hp (W : World) : HH := fun b => W.heap[b]?
theorem hp_sat (W : World) : Sat (hp W) W := fun _ _ h => h
theorem hp_cell {W : World} {a : Addr} {v : Value} (h : W.cell? a = some v) : cellH (hp W) a = some v := h
theorem HCall.calls {P : Program} {f : FuncId} {args : Array Value} {W : World} (h : HCall P W.heap.size f args (hp W) fun v _ => v = .bool true) : Calls P f args W fun e w' => e = .returned (.bool true) ∧ Below W.heap.size W w' :=
  (h.run W (hp_sat W) (Nat.le_refl _)).mono fun e W' ⟨v, H', he, hv, hto⟩ => ⟨by rw [he, hv], hto.os, hto.tape, hto.output, hto.size, fun k hk => by
    by_cases e : k < W.heap.size
    · exact hto.block k e (.inl hk)
    · omega⟩
/-- What cells say of a value. -/
abbrev Rel (α : Type) := HH → α → List Value → Prop
def rInt (k : IntKind) : Rel Int := fun _ n cs => cs = [.int k n]
def rBool : Rel Bool := fun _ b cs => cs = [.bool b]
def rSlice {α : Type} (sz : Nat) (r : Rel α) : Rel (List α) := fun H l cs => ∃ A c, cs = [.slice A l.length c] ∧ l.length ≤ c ∧ (l = [] ∨ ∃ ad, A = some ad ∧ ∀ (i : Nat) (a : α), l[i]? = some a → ∃ cs', cs'.length = sz ∧ r H a cs' ∧ ∀ (j : Nat) (u : Value), cs'[j]? = some u → cellH H (ad.add (i * sz + j)) = some u)
def rPair {α β : Type} (r : Rel α) (q : Rel β) : Rel (α × β) := fun H x cs => ∃ a b, cs = a ++ b ∧ r H x.1 a ∧ q H x.2 b
def Opn (P : Program) {α : Type} (r : Rel α) (t : TypeId) (wf : α → Prop) : Prop :=
  ∀ (D : Type) (enc : TypeId × Value → D) (W : World) (fuel : Nat) (cs : List Value) (x : DataW D × List MemPlace), DataW.trod enc P W 0 (fun _ => true) true fuel t cs = some x → ∃ a, r (hp W) a cs ∧ wf a
section
variable {P : Program} {t e : TypeId}
theorem Opn.int {k : IntKind} (ht : P.underlying t = some (.int k)) : Opn P (rInt k) t (fun n => (Lit.int k n).wf = true) := by
  intro D enc W fuel cs x h
  obtain ⟨n, rfl, _, hn⟩ := DataW.trod_int ht h
  exact ⟨n, rfl, hn⟩
theorem Opn.bool (ht : P.underlying t = some .bool) : Opn P rBool t (fun _ => True) := by
  intro D enc W fuel cs x h
  obtain ⟨b, rfl, _⟩ := DataW.trod_bool ht h
  exact ⟨b, rfl, trivial⟩
theorem chosen {α : Type} {n : Nat} {p : Nat → α → Prop} (h : ∀ i, i < n → ∃ a, p i a) : ∃ l : List α, l.length = n ∧ ∀ i a, l[i]? = some a → p i a := by
  induction n with
  | zero => exact ⟨[], rfl, fun i a h => by simp at h⟩
  | succ n ih =>
    obtain ⟨l, hl, hp⟩ := ih (fun i hi => h i (by omega))
    obtain ⟨a, ha⟩ := h n (by omega)
    refine ⟨l ++ [a], by simp [hl], fun i b hb => ?_⟩
    rcases Nat.lt_or_ge i l.length with hi | hi
    · rw [List.getElem?_append_left hi] at hb
      exact hp i b hb
    · have hi' : i = l.length := by
        have := (List.getElem?_eq_some_iff.1 hb).1
        rw [List.length_append, List.length_singleton] at this
        omega
      subst hi'
      have : a = b := by simpa using hb
      subst this
      rw [hl]
      exact ha
theorem cells_of {w : World} {a : Addr} {n : Nat} {c : List Value} (h : w.cells? 0 a n = some c) : c.length = n ∧ ∀ i u, c[i]? = some u → w.cell? (a.add i) = some u := by
  unfold World.cells? at h
  rw [if_pos (Nat.zero_le _)] at h
  have hl := mapM_some_length h
  rw [List.length_range] at hl
  refine ⟨hl, fun i u hu => ?_⟩
  have hi : i < n := by rw [← hl]; exact (List.getElem?_eq_some_iff.1 hu).1
  have := mapM_some_get h i i (by simp [hi])
  rw [this, hu]
theorem Opn.slice {α : Type} {r : Rel α} {sz : Nat} {wf : α → Prop} (ht : P.underlying t = some (.slice e)) (hc : P.cellsOf e = sz) (he : Opn P r e wf) : Opn P (rSlice sz r) t (fun l => l.length ≤ maxLen ∧ ∀ a ∈ l, wf a) := by
  intro D enc W fuel cs x h
  rcases DataW.trod_slice ht h with ⟨rfl, _⟩ | ⟨a, len, cap, elems, rest, n, _, rfl, _, _, hl, hm, hlen, hel, _⟩
  · exact ⟨[], ⟨none, 0, rfl, Nat.le_refl _, .inl rfl⟩, by simp, fun a ha => by cases ha⟩
  · have each : ∀ i, i < len → ∃ b, ∃ c : List Value, c.length = sz ∧ r (hp W) b c ∧ wf b ∧ ∀ (j : Nat) u, c[j]? = some u → W.cell? (a.add (i * sz + j)) = some u := by
      intro i hi
      have h1 := hel i hi
      rw [hc] at h1
      rw [List.getElem?_eq_getElem (by omega)] at h1
      obtain ⟨c, hcc, hy⟩ := Option.bind_eq_some_iff.1 h1
      obtain ⟨b, hb, hwb⟩ := he D enc W n c _ hy
      obtain ⟨h3, h4⟩ := cells_of hcc
      refine ⟨b, c, h3, hb, hwb, fun j u hu => ?_⟩
      rw [← addr_add]
      exact h4 j u hu
    obtain ⟨l, hll, hp'⟩ := chosen each
    refine ⟨l, ⟨some a, cap, by rw [hll], by omega, .inr ⟨a, rfl, fun i b hb => ?_⟩⟩, by rw [hll]; have : maxLen = 9223372036854775807 := rfl; omega, fun b hb => ?_⟩
    · obtain ⟨c, h1, h2, _, h4⟩ := hp' i b hb
      exact ⟨c, h1, h2, fun j u hu => hp_cell (h4 j u hu)⟩
    · obtain ⟨i, hi, rfl⟩ := List.getElem_of_mem hb
      obtain ⟨_, _, _, h3, _⟩ := hp' i _ (List.getElem?_eq_getElem hi)
      exact h3
/-- The fields of a struct, one by one: what is left from cell 'off' on. -/
theorem pairR {α β : Type} {r : Rel α} {q : Rel β} {H : HH} {x : α} {y : β} {cs : List Value} {off s : Nat} (h0 : r H x ((cs.drop off).take s)) (h1 : q H y (cs.drop (off + s))) : rPair r q H (x, y) (cs.drop off) :=
  ⟨_, _, (List.take_append_drop s _).symm, h0, by rw [List.drop_drop]; exact h1⟩
theorem lastR {α : Type} {r : Rel α} {H : HH} {x : α} {cs : List Value} {off s : Nat} (hl : cs.length = off + s) (h0 : r H x ((cs.drop off).take s)) : r H x (cs.drop off) := by
  rw [List.take_of_length_le (by rw [List.length_drop]; omega)] at h0
  exact h0
theorem fieldAt {D : Type} {enc : TypeId × Value → D} {W : World} {fs : Array Field} {cs : List Value} {n : Nat} {xs : List (DataW D × List MemPlace)} (hx : xs.length = fs.size)
    (hf : ∀ (i : Nat) (f : Field), fs[i]? = some f → DataW.trod enc P W 0 (fun _ => true) true n f.type ((cs.drop f.offset).take (P.cellsOf f.type)) = xs[i]?)
    {α : Type} {r : Rel α} {wf : α → Prop} (i : Nat) (f : Field) (hi : fs[i]? = some f) {T : TypeId} (hT : f.type = T) (ho : Opn P r T wf) (off s : Nat) (h1 : f.offset = off) (h2 : P.cellsOf T = s) : ∃ a, r (hp W) a ((cs.drop off).take s) ∧ wf a := by
  subst hT
  have h := hf i f hi
  have hlt : i < xs.length := by rw [hx]; exact (Array.getElem?_eq_some_iff.1 hi).1
  rw [List.getElem?_eq_getElem hlt, h1, h2] at h
  exact ho D enc W n _ _ h
end
end Go.Proofs.YtjpaichcaaacbaaDoor.HL
end
section
set_option linter.unusedVariables false
namespace Go.Proofs.YtjpaichcaaacbaaDoor.HL
open Go
abbrev VI (k : IntKind) : Int → Prop := fun n => (Lit.int k n).wf = true
abbrev WR : List Int → Prop := fun l => l.length ≤ maxLen ∧ ∀ a ∈ l, VI .u64 a
abbrev WM : List (List Int) → Prop := fun l => l.length ≤ maxLen ∧ ∀ a ∈ l, WR a
abbrev WG : Gate → Prop := fun g => VI .u64 g.k
abbrev WGs : List Gate → Prop := fun l => l.length ≤ maxLen ∧ ∀ a ∈ l, WG a
theorem VI.nn {n : Int} (h : VI .u64 n) : 0 ≤ n := by
  simp [VI, Lit.wf] at h
  have e : IntKind.u64.min = 0 := by decide
  omega
theorem WM.nn {m : List (List Int)} (h : WM m) : ∀ r ∈ m, ∀ x ∈ r, 0 ≤ x := fun r hr x hx => ((h.2 r hr).2 x hx).nn
theorem WGs.nn {m : List Gate} (h : WGs m) : ∀ g ∈ m, 0 ≤ g.k := fun r hr => VI.nn (h.2 r hr)
theorem un22 : Tryd.prog.underlying 22 = some (.int .u64) := by kernel_rfl
theorem un3 : Tryd.prog.underlying 3 = some (.int .i64) := by kernel_rfl
theorem opn22 : Opn Tryd.prog (rInt .u64) 22 (VI .u64) := Opn.int un22
theorem opn3 : Opn Tryd.prog (rInt .i64) 3 (VI .i64) := Opn.int un3
def rGate : Rel Gate := fun _ g cs => cs = gv g
abbrev rGates : Rel (List Gate) := rSlice 5 rGate
abbrev rInts : Rel (List Int) := rSlice 1 (rInt .i64)
theorem drop_one {cs : List Value} {v : Value} {i : Nat} (h : (cs.drop i).take 1 = [v]) : cs.drop i = v :: cs.drop (i + 1) := by
  cases hd : cs.drop i with
  | nil => rw [hd] at h; cases h
  | cons x xs =>
    rw [hd] at h
    have : x = v := by simpa using h
    rw [this]
    congr 1
    have := congrArg (List.drop 1) hd
    rw [List.drop_drop] at this
    exact this.symm
theorem opnGate : Opn Tryd.prog rGate tGate WG := by
  intro D enc W fuel cs x h
  obtain ⟨xs, n, _, _, hl, hx, hf⟩ := DataW.trod_struct Tryd.underlying37 h
  obtain ⟨a0, k0, w0⟩ := fieldAt hx hf 0 _ rfl rfl opn3 0 1 rfl (by kernel_rfl)
  obtain ⟨a1, k1, w1⟩ := fieldAt hx hf 1 _ rfl rfl opn3 1 1 rfl (by kernel_rfl)
  obtain ⟨a2, k2, w2⟩ := fieldAt hx hf 2 _ rfl rfl opn3 2 1 rfl (by kernel_rfl)
  obtain ⟨a3, k3, w3⟩ := fieldAt hx hf 3 _ rfl rfl opn3 3 1 rfl (by kernel_rfl)
  obtain ⟨a4, k4, w4⟩ := fieldAt hx hf 4 _ rfl rfl opn22 4 1 rfl (by kernel_rfl)
  refine ⟨⟨a0, a1, a2, a3, a4⟩, ?_, w4⟩
  have hl5 : cs.length = 5 := hl.trans (by kernel_rfl)
  have e : cs = cs.drop 0 := rfl
  show cs = [.int .i64 a0, .int .i64 a1, .int .i64 a2, .int .i64 a3, .int .u64 a4]
  rw [e, drop_one k0, drop_one k1, drop_one k2, drop_one k3, drop_one k4, List.drop_eq_nil_of_le (by omega)]
theorem opnGates : Opn Tryd.prog rGates tGates WGs := Opn.slice unGates (by kernel_rfl) opnGate
theorem opnInts : Opn Tryd.prog rInts tInts (fun l => l.length ≤ maxLen ∧ ∀ a ∈ l, VI .i64 a) := Opn.slice unInts (by kernel_rfl) opn3
theorem gc_back : ∀ (l : List Gate) (j : Nat) (u : Value), (gc l)[j]? = some u → ∃ (i : Nat) (f : Gate) (k : Nat), j = i * 5 + k ∧ l[i]? = some f ∧ (gv f)[k]? = some u
  | [], j, u, h => by simp [gc] at h
  | f :: l, j, u, h => by
    have e : gc (f :: l) = gv f ++ gc l := rfl
    rw [e] at h
    have hl : (gv f).length = 5 := rfl
    rcases Nat.lt_or_ge j 5 with h1 | h1
    · rw [List.getElem?_append_left (by omega)] at h
      exact ⟨0, f, j, by omega, rfl, h⟩
    · rw [List.getElem?_append_right (by omega), hl] at h
      obtain ⟨i, f', k, h2, h3, h4⟩ := gc_back l (j - 5) u h
      exact ⟨i + 1, f', k, by omega, h3, h4⟩
theorem gs_of {H : HH} {l : List Gate} {cs : List Value} (h : rGates H l cs) : ∃ A c, cs = [.slice A l.length c] ∧ Gs H A l.length l ∧ l.length ≤ c := by
  obtain ⟨A, c, rfl, hc, h⟩ := h
  refine ⟨A, c, rfl, ⟨rfl, ?_⟩, hc⟩
  rcases h with rfl | ⟨ad, rfl, h⟩
  · exact .inl rfl
  · refine .inr ⟨ad, rfl, fun i u hu => ?_⟩
    obtain ⟨j, k, q, rfl, h1, h2⟩ := gc_back l i u hu
    obtain ⟨cs', _, e, h3⟩ := h j k h1
    refine h3 q u ?_
    rw [show cs' = _ from e]
    exact h2
theorem outs_of {H : HH} {l : List Int} {cs : List Value} (h : rInts H l cs) : ∃ A c, cs = [.slice A l.length c] ∧ Outs H A l.length l ∧ l.length ≤ c := by
  obtain ⟨A, c, rfl, hc, h⟩ := h
  refine ⟨A, c, rfl, ⟨rfl, ?_⟩, hc⟩
  rcases h with rfl | ⟨ad, rfl, h⟩
  · exact .inl rfl
  · refine .inr ⟨ad, rfl, fun i u hu => ?_⟩
    unfold is at hu
    rw [List.getElem?_map] at hu
    obtain ⟨x, hx, rfl⟩ := Option.map_eq_some_iff.1 hu
    obtain ⟨cs', _, h2, h3⟩ := h i x hx
    have := h3 0 (.int .i64 x) (by rw [show cs' = _ from h2]; rfl)
    rwa [Nat.mul_one, Nat.add_zero] at this
abbrev XCi : Type := Int × List Gate × List Int
abbrev rCirc : Rel XCi := rPair (rInt .u64) (rPair rGates rInts)
abbrev WCi : XCi → Prop := fun x => VI .u64 x.1 ∧ WGs x.2.1
theorem opnCirc : Opn Tryd.prog rCirc tC WCi := by
  intro D enc W fuel cs x h
  obtain ⟨xs, n, _, _, hl, hx, hf⟩ := DataW.trod_struct Tryd.underlying26 h
  obtain ⟨a0, k0, w0⟩ := fieldAt hx hf 0 _ rfl rfl opn22 0 1 rfl (by kernel_rfl)
  obtain ⟨a1, k1, w1⟩ := fieldAt hx hf 1 _ rfl rfl opnGates 1 1 rfl (by kernel_rfl)
  obtain ⟨a2, k2, w2⟩ := fieldAt hx hf 2 _ rfl rfl opnInts 2 1 rfl (by kernel_rfl)
  exact ⟨(a0, a1, a2), pairR (off := 0) (s := 1) k0 (pairR (off := 1) (s := 1) k1 (lastR (off := 2) (s := 1) (hl.trans (by kernel_rfl)) k2)), w0, w1⟩
theorem circ_of {H : HH} {x : XCi} {cs : List Value} (h : rCirc H x cs) : ∃ A1 c1 A2 c2, cs = [.int .u64 x.1, .slice A1 x.2.1.length c1, .slice A2 x.2.2.length c2] ∧ Gs H A1 x.2.1.length x.2.1 ∧ x.2.1.length ≤ c1 ∧ Outs H A2 x.2.2.length x.2.2 := by
  obtain ⟨a, b, rfl, e0, b1, b2, rfl, h1, h2⟩ := h
  have e0 : a = _ := e0
  obtain ⟨A1, c1, rfl, m1, hc1⟩ := gs_of h1
  obtain ⟨A2, c2, rfl, m2, _⟩ := outs_of h2
  subst e0
  exact ⟨A1, c1, A2, c2, rfl, m1, hc1, m2⟩
end Go.Proofs.YtjpaichcaaacbaaDoor.HL
end
namespace Go.Proofs.YtjpaichcaaacbaaDoor.HL
end Go.Proofs.YtjpaichcaaacbaaDoor.HL

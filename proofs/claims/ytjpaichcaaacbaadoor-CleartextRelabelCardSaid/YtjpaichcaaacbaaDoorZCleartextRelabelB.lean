/- Part B of: The statement CleartextRelabel: the law answers true whatever its arguments; no condition. -/
import Derived.Test.YtjpaichcaaacbaaDoorZCleartextRelabelA
import Derived.Deep.RegionHeld3
import Derived.RowKit
import Derived.Below
import Derived.Deep.Draws
import Derived.Deep.AppendLies
import Derived.Maps.AppendAt
import Derived.OwnWalk
import Derived.Laws.BytesArg
import Derived.Laws.MakeOwn
import Derived.Laws.OwnMore
import Derived.Deep.OwnRows
import Derived.Tactics
import Derived.Lib.ConvBytes
import Derived.Laws.Slices
import Derived.WalkKit
import Derived.KernelRfl
import Derived.RowKit3
import Derived.Deep.LoopGhost
import Derived.Deep.QuietTactic
import Derived.BigQuiet
import Derived.WideLaws
import Derived.Deep.DeepCutAuto
import Derived.Deep.CutBlock
import Derived.Laws.Rows
import Derived.Lib.AppendStr
import Derived.ArgAppend
import Derived.Laws.IdiomCopy
import Derived.Laws.StructEq
section
set_option linter.unusedVariables false
set_option linter.unusedSimpArgs false
namespace Go.Proofs.YtjpaichcaaacbaaDoorW.PrintWords
open Go.RowKit
/-- A fact that the walk's simp doesn't look into. -/
structure Aside0 (p : Prop) : Prop where mk :: (out : p)
/-- The world is the old one, some orders having been drawn. -/
structure Drawn0 (w w' : World) : Prop where mk :: (out : ∃ n, w' = w.drewN n)
theorem Drawn0.refl (w : World) : Drawn0 w w := ⟨⟨0, rfl⟩⟩
theorem Drawn0.step {w w' : World} (h : Drawn0 w w') (n : Nat) : Drawn0 w (w'.drewN n) := by
  obtain ⟨m, rfl⟩ := h
  exact ⟨⟨m + n, World.drewN_drewN ..⟩⟩
theorem Drawn0.grown {w w' : World} (h : Drawn0 w w') : Grown w w' := by
  obtain ⟨n, rfl⟩ := h
  induction n with
  | zero => exact Grown.refl _
  | succ n ih => rw [← World.drew_drewN]; exact Grown.drew ih
theorem Drawn0.below {w w' : World} (h : Drawn0 w w') : Below w.heap.size w w' := by
  obtain ⟨n, rfl⟩ := h
  induction n with
  | zero => exact Below.refl _ _
  | succ n ih => rw [← World.drew_drewN]; exact ih.drew
def rd (xs : List Int) (i : Int) : Int := xs.getD i.toNat 0
def bt (s : ByteArray) (i : Int) : Int := if h : i.toNat < s.size then ((s[i.toNat]'h).toNat : Int) else 0
theorem below_alloc {w W : World} (h : Below w.heap.size w W) (o : Obj) : Below w.heap.size w (W.alloc o) := h.alloc h.size o
theorem grown_of_below {w w1 : World} (h : Below w.heap.size w w1) (row : Option Nat) : w.grownBy w1 row := ⟨h.os, h.tape, h.output, h.size, fun i hi _ => h.block i hi⟩
theorem pw_cell_below {w w1 : World} (h : Below w.heap.size w w1) {a : Addr} {v : Value} (hc : w.cell? a = some v) : w1.cell? a = some v := (h.cell (World.block_lt_of_cell? w a hc)).trans hc
theorem add_plain (g j : Nat) : (⟨g, 0, none⟩ : Addr).add j = ⟨g, j, none⟩ := by unfold Addr.add; split <;> simp_all
def ReadsInt (w : World) (k : IntKind) (A : Option Addr) (n : Nat) (xs : List Int) : Prop :=
  xs.length = n ∧ n ≤ 9223372036854775807 ∧ (0 < n → ∃ ad, A = some ad ∧ ∀ j, j < n → w.cell? (ad.add j) = some (.int k (xs.getD j 0)))
theorem ReadsInt.at_ {w : World} {k : IntKind} {A : Option Addr} {n : Nat} {xs : List Int} (h : ReadsInt w k A n xs) (i : Int) (h0 : 0 ≤ i) (h1 : i < n) : ∃ ad, A = some ad ∧ w.cell? (ad.add i.toNat) = some (.int k (rd xs i)) := by
  obtain ⟨ad, e, hc⟩ := h.2.2 (by omega)
  exact ⟨ad, e, hc _ (by omega)⟩
theorem ReadsInt.below {w w1 : World} {k : IntKind} {A : Option Addr} {n : Nat} {xs : List Int} (h : ReadsInt w k A n xs) (hb : Below w.heap.size w w1) : ReadsInt w1 k A n xs :=
  ⟨h.1, h.2.1, fun hn => by
    obtain ⟨ad, e, hc⟩ := h.2.2 hn
    exact ⟨ad, e, fun j hj => pw_cell_below hb (hc j hj)⟩⟩
theorem own_base {w : World} {base : Nat} {e : TypeId} {size n : Nat} {v : Value} {xs : List Value} (h : w.ownsRow base e size v n xs) (k : Nat) (hk : v.ownBlock = some k) : base ≤ k := by
  rcases h.2 with ⟨rfl, _⟩ | ⟨g, cap, cur, rfl, hb, _⟩
  · simp [Value.ownBlock] at hk
  · have : g = k := by simpa [Value.ownBlock] using hk
    omega
theorem own_lt {w : World} {base : Nat} {e : TypeId} {size n : Nat} {v : Value} {xs : List Value} (h : w.ownsRow base e size v n xs) (k : Nat) (hk : v.ownBlock = some k) : k < w.heap.size := by
  rcases h.2 with ⟨rfl, _⟩ | ⟨g, cap, cur, rfl, hb, hh, _⟩
  · simp [Value.ownBlock] at hk
  · have : g = k := by simpa [Value.ownBlock] using hk
    subst this
    exact (Array.getElem?_eq_some_iff.1 hh).1
theorem pw_own_below {w w1 : World} {base : Nat} {e : TypeId} {size n : Nat} {v : Value} {xs : List Value} (h : w.ownsRow base e size v n xs) (hb : Below w.heap.size w w1) : w1.ownsRow base e size v n xs :=
  h.kept (grown_of_below hb none) (by cases v.ownBlock <;> simp)
/-- What is written is another row: this one lives on. -/
theorem own_other {w w1 : World} {base : Nat} {e : TypeId} {size n : Nat} {v : Value} {xs : List Value} (h : w.ownsRow base e size v n xs) {row : Option Nat} (hg : w.grownBy w1 row) (hne : v.ownBlock = none ∨ v.ownBlock ≠ row) : w1.ownsRow base e size v n xs := h.kept hg hne
section
end
section
end
section
end
/-- Where the first answers, the second answers the same. -/
def LeO {α : Type} (a b : Option α) : Prop := ∀ r, a = some r → b = some r
theorem LeO.refl {α : Type} (a : Option α) : LeO a a := fun _ h => h
theorem LeO.none {α : Type} (b : Option α) : LeO Option.none b := fun _ h => by cases h
theorem LeO.trans {α : Type} {a b c : Option α} (h : LeO a b) (k : LeO b c) : LeO a c := fun r hr => k r (h r hr)
theorem LeO.ite {α : Type} {c : Prop} [Decidable c] {a a' b b' : Option α} (h : LeO a a') (k : LeO b b') : LeO (if c then a else b) (if c then a' else b') := by
  split
  · exact h
  · exact k
theorem LeO.bind {α β : Type} {a a' : Option α} {f f' : α → Option β} (h : LeO a a') (k : ∀ x, LeO (f x) (f' x)) : LeO (a.bind f) (a'.bind f') := by
  intro r hr
  obtain ⟨x, hx, hf⟩ := Option.bind_eq_some_iff.1 hr
  exact Option.bind_eq_some_iff.2 ⟨x, h x hx, k x r hf⟩
theorem LeO.map {α β : Type} {a a' : Option α} (f : α → β) (h : LeO a a') : LeO (a.map f) (a'.map f) := by
  intro r hr
  obtain ⟨x, hx, hf⟩ := Option.map_eq_some_iff.1 hr
  exact Option.map_eq_some_iff.2 ⟨x, h x hx, hf⟩
theorem more_rounds {α : Type} {g : Nat → Option α} (h : ∀ k, LeO (g k) (g (k + 1))) (k : Nat) : ∀ j, LeO (g k) (g (k + j))
  | 0 => LeO.refl _
  | j + 1 => (more_rounds h k j).trans (h (k + j))
theorem at_rounds {α : Type} {g : Nat → Option α} (h : ∀ k, LeO (g k) (g (k + 1))) {k k' : Nat} (hk : k ≤ k') {r : α} (hr : g k = some r) : g k' = some r := by
  have := more_rounds h k (k' - k) r hr
  rwa [Nat.add_sub_cancel' hk] at this
def Reps {α : Type} (R : α → List Value → Prop) (size : Nat) (ps : List α) (cs : List Value) : Prop :=
  cs.length = ps.length * size ∧ ∀ j p, ps[j]? = some p → R p ((cs.drop (j * size)).take size)
theorem Reps.none {α : Type} (R : α → List Value → Prop) (size : Nat) : Reps R size [] [] := ⟨by simp, fun j p h => by simp at h⟩
theorem Reps.snoc {α : Type} {R : α → List Value → Prop} {size : Nat} {ps : List α} {cs c : List Value} {p : α} (h : Reps R size ps cs) (hp : R p c) (hc : c.length = size) : Reps R size (ps ++ [p]) (cs ++ c) := by
  refine ⟨by rw [List.length_append, h.1, hc, List.length_append, List.length_singleton, Nat.add_mul, Nat.one_mul], fun j q hq => ?_⟩
  rcases Nat.lt_or_ge j ps.length with hj | hj
  · rw [List.getElem?_append_left hj] at hq
    have h1 : j * size + size ≤ cs.length := by rw [h.1, ← Nat.succ_mul]; exact Nat.mul_le_mul_right _ hj
    have h2 := h.2 j q hq
    rw [List.drop_append_of_le_length (by omega), List.take_append_of_le_length (by rw [List.length_drop]; omega)]
    exact h2
  · have hj' : j = ps.length := by
      have := (List.getElem?_eq_some_iff.1 hq).1
      rw [List.length_append, List.length_singleton] at this
      omega
    subst hj'
    have hq' : p = q := by simpa using hq
    subst hq'
    rw [← h.1, List.drop_left, ← hc, List.take_length]
    exact hp
theorem Reps.imp_ {α : Type} {R R' : α → List Value → Prop} {size : Nat} {ps : List α} {cs : List Value} (h : Reps R size ps cs) (hR : ∀ p c, R p c → R' p c) : Reps R' size ps cs := ⟨h.1, fun j p hj => hR _ _ (h.2 j p hj)⟩
def ReadsRow {α : Type} (R : α → List Value → Prop) (size : Nat) (w : World) (A : Option Addr) (n : Nat) (ps : List α) : Prop :=
  ps.length = n ∧ n ≤ 9223372036854775807 ∧ (0 < n → ∃ ad, A = some ad ∧ ∀ j p, ps[j]? = some p → ∃ c, c.length = size ∧ R p c ∧ ∀ i u, c[i]? = some u → w.cell? (ad.add (j * size + i)) = some u)
theorem ReadsRow.imp_ {α : Type} {R R' : α → List Value → Prop} {size : Nat} {w w1 : World} {A : Option Addr} {n : Nat} {ps : List α} (h : ReadsRow R size w A n ps) (hb : Below w.heap.size w w1) (hR : ∀ p c, R p c → R' p c) : ReadsRow R' size w1 A n ps :=
  ⟨h.1, h.2.1, fun hn => by
    obtain ⟨ad, e, hc⟩ := h.2.2 hn
    refine ⟨ad, e, fun j p hj => ?_⟩
    obtain ⟨c, hs, hr, hcell⟩ := hc j p hj
    exact ⟨c, hs, hR _ _ hr, fun i u hu => pw_cell_below hb (hcell i u hu)⟩⟩
theorem own_reads_row {α : Type} {R : α → List Value → Prop} {w : World} {base n size : Nat} {e : TypeId} {v : Value} {ps : List α} {cs : List Value} (h : w.ownsRow base e size v n cs) (hR : Reps R size ps cs) (hn : ps.length = n) :
    ∃ A c, v = .slice A n c ∧ ReadsRow R size w A n ps := by
  rcases Nat.eq_zero_or_pos n with h0 | h0
  · rcases h.2 with ⟨rfl, rfl⟩ | ⟨g, cap, cur, rfl, _⟩
    · exact ⟨none, 0, rfl, hn, by omega, fun hp => absurd hp (by omega)⟩
    · exact ⟨_, cap, rfl, hn, by omega, fun hp => absurd hp (by omega)⟩
  · obtain ⟨g, cap, rfl, _, _⟩ := h.form h0
    have hm : n ≤ 9223372036854775807 := by
      rcases h.2 with ⟨_, h1⟩ | ⟨g', cap', cur, he, _, _, h1, h2, _⟩
      · omega
      · simp only [maxLen] at h2
        omega
    refine ⟨_, cap, rfl, hn, hm, fun _ => ⟨_, rfl, fun j p hj => ⟨(cs.drop (j * size)).take size, ?_, hR.2 j p hj, fun i u hu => ?_⟩⟩⟩
    · have hjl := (List.getElem?_eq_some_iff.1 hj).1
      have h1 : j * size + size ≤ cs.length := by rw [hR.1, ← Nat.succ_mul]; exact Nat.mul_le_mul_right _ hjl
      rw [List.length_take, List.length_drop]
      omega
    · refine h.cells (g := g) rfl _ u ?_
      rw [List.getElem?_take] at hu
      split at hu
      · rw [List.getElem?_drop] at hu
        exact hu
      · cases hu
section
variable {P : Program} {ops : Array Oper} {rest : List Oper} {o : Oper} {a : Act} {Q : Exit → Act → World → Prop}
/-- append(v, x), x of several cells; behind 'at_builtin'; the goal's world is 'W.alloc' of the variadic's box. -/
theorem print_append_cells {w0 W : World} (base : Nat) (hgd : o.guard = none) (s x : Operand) (t e : TypeId) (z : Value) (size bytes : Nat)
    (ho : o.op = .call { callee := .builtin .append, args := #[s, x], argTypes := #[t, t] })
    (ht : P.underlying t = some (.slice e)) (hinfo : (P.info? e).map (fun i => (i.zero, i.size, i.bytes)) = some (some z, size, bytes)) (hz : z.cells.size = size) (hs0 : 0 < size) (hb0 : 0 < bytes)
    (v : Value) (n : Nat) (xs ys : List Value) (hs : a.eval s = v) (hx : a.eval x = .slice (some ⟨W.heap.size, 0, none⟩) 1 1) (hys : ys.length = size) (h1 : ∀ u ∈ ys, u.oneCell' = true)
    (HO : W.ownsRow base e size v n xs) (HB : Below base w0 W) (hbase : base ≤ W.heap.size) (hl : (n + 1) * bytes ≤ 140737488355328)
    (h : ∀ v1 w1, w1.ownsRow base e size v1 (n + 1) (xs ++ ys) → Below base w0 w1 → W.grownBy w1 v.ownBlock → (v1.ownBlock = v.ownBlock ∨ ∃ b, v1.ownBlock = some b ∧ W.heap.size ≤ b) → wpList P ops Q rest (a.put o.dst v1) w1) :
    wpList P ops Q (o :: rest) a (W.alloc (.cells ys.toArray e)) := by
  obtain ⟨i0, hi, hzz⟩ := Option.map_eq_some_iff.1 hinfo
  simp only [Prod.mk.injEq] at hzz
  obtain ⟨hz0, hz1, hz2⟩ := hzz
  have hlen : n + 1 ≤ 140737488355328 := Nat.le_trans (Nat.le_mul_of_pos_right _ hb0) hl
  refine wpList_append_own_at (W.alloc (.cells ys.toArray e)) hgd s x t ho base e i0 z size bytes ht hi hz0 hz1 hz2 hz hs0 v n xs hs (HO.alloc _) ⟨W.heap.size, 0, none⟩ 1 1 ys hx (by rw [hys]; simp)
    (by simpa using World.news_of_block (cs := ys.toArray) (t := e) (fr := (0, 0)) (heap_alloc_new W (.cells ys.toArray e))) h1 (by simp only [maxLen]; omega) hl (by simp; omega) ?_
  intro v1 w1 hown hg _ hat
  refine h v1 w1 hown ((HB.alloc hbase _).grown hg (by simp; omega) (own_base HO)) (World.grownBy.trans (World.grownBy_alloc W _ _) hg) ?_
  rcases hat with hat | hat
  · exact .inl hat
  · exact .inr ⟨_, hat, by simp⟩
end
theorem own_ne {w : World} {base : Nat} {e t : TypeId} {size n g : Nat} {v : Value} {xs : List Value} {cs : Array Value} (h : w.ownsRow base e size v n xs) (hg : w.heap[g]? = some (.cells cs t (0, 0))) (hne : e ≠ t) : some g ≠ v.ownBlock := by
  rcases h.2 with ⟨rfl, _⟩ | ⟨g', cap, cur, rfl, _, hh, _⟩
  · simp [Value.ownBlock]
  · intro he
    have : g = g' := by simpa [Value.ownBlock] using he
    subst this
    rw [hg] at hh
    injection hh with hh
    injection hh with _ ht
    exact hne ht.symm
theorem blk_lt {w : World} {g : Nat} {o : Obj} (h : w.heap[g]? = some o) : g < w.heap.size := (Array.getElem?_eq_some_iff.1 h).1
def KeepBut (w w' : World) (g : Nat) (row : Option Nat) : Prop := w.heap.size ≤ w'.heap.size ∧ ∀ i, i < w.heap.size → i ≠ g → some i ≠ row → w'.heap[i]? = w.heap[i]?
theorem KeepBut.refl (w : World) (g : Nat) (row : Option Nat) : KeepBut w w g row := ⟨Nat.le_refl _, fun _ _ _ _ => rfl⟩
theorem KeepBut.trans {w w1 w2 : World} {g : Nat} {row row1 : Option Nat} (h : KeepBut w w1 g row) (k : KeepBut w1 w2 g row1) (hr : row1 = row ∨ ∃ b, row1 = some b ∧ w.heap.size ≤ b) : KeepBut w w2 g row :=
  ⟨Nat.le_trans h.1 k.1, fun i hi hg hn => by
    refine (k.2 i (Nat.lt_of_lt_of_le hi h.1) hg ?_).trans (h.2 i hi hg hn)
    rcases hr with rfl | ⟨b, rfl, hb⟩
    · exact hn
    · intro e
      injection e with e
      omega⟩
/-- Another block, another row: they live on. -/
theorem KeepBut.blk {w w1 : World} {g g' : Nat} {row : Option Nat} {o : Obj} (h : KeepBut w w1 g row) (hb : w.heap[g']? = some o) (hg : g' ≠ g) (hr : some g' ≠ row) : w1.heap[g']? = some o := (h.2 g' (blk_lt hb) hg hr).trans hb
theorem KeepBut.own {w w1 : World} {g : Nat} {row : Option Nat} {base : Nat} {e : TypeId} {size n : Nat} {v : Value} {xs : List Value} (h : KeepBut w w1 g row) (ho : w.ownsRow base e size v n xs) (hg : v.ownBlock ≠ some g) (hr : v.ownBlock = none ∨ v.ownBlock ≠ row) : w1.ownsRow base e size v n xs := by
  obtain ⟨h1, h2⟩ := ho
  refine ⟨h1, ?_⟩
  rcases h2 with h2 | ⟨b, cap, cur, rfl, hb, hh, r⟩
  · exact .inl h2
  · refine .inr ⟨b, cap, cur, rfl, hb, h.blk hh ?_ ?_, r⟩
    · intro e
      exact hg (by rw [← e]; rfl)
    · rcases hr with hr | hr
      · simp [Value.ownBlock] at hr
      · exact hr
def Ev {α : Type} (g : Nat → Option α) (r : α) : Prop := ∃ K, ∀ k, K ≤ k → g k = some r
theorem Ev.of {α : Type} {g : Nat → Option α} {r : α} (hg : ∀ k, LeO (g k) (g (k + 1))) {k : Nat} (h : g k = some r) : Ev g r := ⟨k, fun _ hk => at_rounds hg hk h⟩
theorem Ev.now {α : Type} (r : α) : Ev (fun _ => some r) r := ⟨0, fun _ _ => rfl⟩
theorem Ev.rounds {α : Type} {g : Nat → Option α} {r : α} (h : Ev g r) : ∃ k, g k = some r := by
  obtain ⟨K, h⟩ := h
  exact ⟨K, h K (Nat.le_refl _)⟩
theorem Ev.bind {α β : Type} {g : Nat → Option α} {f : Nat → α → Option β} {a : α} {r : β} (h : Ev g a) (k : Ev (fun n => f n a) r) : Ev (fun n => (g n).bind (f n)) r := by
  obtain ⟨K, h⟩ := h
  obtain ⟨K', k⟩ := k
  refine ⟨max K K', fun n hn => ?_⟩
  have h1 := h n (by omega)
  have h2 := k n (by omega)
  simp only [h1, Option.bind_some]
  exact h2
/-- One round of a loop. -/
theorem Ev.step {α : Type} {g f : Nat → Option α} {r : α} (h : ∀ k, g (k + 1) = f k) (k : Ev f r) : Ev g r := by
  obtain ⟨K, k⟩ := k
  refine ⟨K + 1, fun n hn => ?_⟩
  obtain ⟨m, rfl⟩ : ∃ m, n = m + 1 := ⟨n - 1, by omega⟩
  rw [h]
  exact k m (by omega)
theorem Ev.congr {α : Type} {g f : Nat → Option α} {r : α} (h : ∀ k, g k = f k) (k : Ev f r) : Ev g r := by
  obtain ⟨K, k⟩ := k
  exact ⟨K, fun n hn => (h n).trans (k n hn)⟩
section
end
theorem own_weaken {w : World} {base base' : Nat} {e : TypeId} {size n : Nat} {v : Value} {xs : List Value} (h : w.ownsRow base e size v n xs) (hb : base' ≤ base) : w.ownsRow base' e size v n xs := by
  obtain ⟨h1, h2⟩ := h
  refine ⟨h1, ?_⟩
  rcases h2 with h2 | ⟨g, cap, cur, rfl, hg, r⟩
  · exact .inl h2
  · exact .inr ⟨g, cap, cur, rfl, Nat.le_trans hb hg, r⟩
section
variable {α : Type} {enc : α → Value} {d : α}
def rdOf (d : α) (xs : List α) (i : Int) : α := xs.getD i.toNat d
def ReadsOf (enc : α → Value) (d : α) (w : World) (A : Option Addr) (n : Nat) (xs : List α) : Prop :=
  xs.length = n ∧ n ≤ 9223372036854775807 ∧ (0 < n → ∃ ad, A = some ad ∧ ∀ j, j < n → w.cell? (ad.add j) = some (enc (xs.getD j d)))
theorem ReadsOf.at_ {w : World} {A : Option Addr} {n : Nat} {xs : List α} (h : ReadsOf enc d w A n xs) (i : Int) (h0 : 0 ≤ i) (h1 : i < n) : ∃ ad, A = some ad ∧ w.cell? (ad.add i.toNat) = some (enc (rdOf d xs i)) := by
  obtain ⟨ad, e, hc⟩ := h.2.2 (by omega)
  exact ⟨ad, e, hc _ (by omega)⟩
theorem ReadsOf.below {w w1 : World} {A : Option Addr} {n : Nat} {xs : List α} (h : ReadsOf enc d w A n xs) (hb : Below w.heap.size w w1) : ReadsOf enc d w1 A n xs :=
  ⟨h.1, h.2.1, fun hn => by
    obtain ⟨ad, e, hc⟩ := h.2.2 hn
    exact ⟨ad, e, fun j hj => pw_cell_below hb (hc j hj)⟩⟩
end
section
end
section
end
theorem own_le {w : World} {base n m c size : Nat} {e : TypeId} {A : Option Addr} {xs : List Value} (h : w.ownsRow base e size (.slice A m c) n xs) : m ≤ c := by
  rcases h.2 with ⟨he, _⟩ | ⟨g, cap, cur, he, _, _, hnc, _⟩
  · injection he with _ h2 h3
    omega
  · injection he with _ h2 h3
    omega
def OwnRow {α : Type} (R : α → List Value → Prop) (e : TypeId) (size : Nat) (w : World) (base : Nat) (v : Value) (ps : List α) : Prop :=
  ∃ inner, w.ownsRow base e size v ps.length inner ∧ Reps R size ps inner
section
variable {α : Type} {R R' : α → List Value → Prop} {e : TypeId} {size : Nat} {w w1 : World} {base : Nat} {v : Value} {ps : List α}
theorem OwnRow.imp_ (h : OwnRow R e size w base v ps) (hR : ∀ p c, R p c → R' p c) : OwnRow R' e size w base v ps := by
  obtain ⟨inner, ho, hr⟩ := h
  exact ⟨inner, ho, hr.imp_ hR⟩
theorem OwnRow.below (h : OwnRow R e size w base v ps) (hb : Below w.heap.size w w1) : OwnRow R e size w1 base v ps := by
  obtain ⟨inner, ho, hr⟩ := h
  exact ⟨inner, pw_own_below ho hb, hr⟩
theorem OwnRow.other (h : OwnRow R e size w base v ps) {row : Option Nat} (hg : w.grownBy w1 row) (hne : v.ownBlock = none ∨ v.ownBlock ≠ row) : OwnRow R e size w1 base v ps := by
  obtain ⟨inner, ho, hr⟩ := h
  exact ⟨inner, own_other ho hg hne, hr⟩
theorem OwnRow.keep (h : OwnRow R e size w base v ps) {g : Nat} {t : TypeId} {cells : Array Value} (hb : w.heap[g]? = some (.cells cells t (0, 0))) (ht : e ≠ t) (hk : KeepBut w w1 g none) : OwnRow R e size w1 base v ps := by
  obtain ⟨inner, ho, hr⟩ := h
  exact ⟨inner, hk.own ho (Ne.symm (own_ne ho hb ht)) (by cases v.ownBlock <;> simp), hr⟩
theorem OwnRow.reads (h : OwnRow R e size w base v ps) : ∃ A c, v = .slice A ps.length c ∧ ps.length ≤ c ∧ ReadsRow R size w A ps.length ps := by
  obtain ⟨inner, ho, hr⟩ := h
  obtain ⟨A, c, rfl, hrow⟩ := own_reads_row ho hr rfl
  exact ⟨A, c, rfl, own_le ho, hrow⟩
/-- A literal: the elements' cells one behind the other. -/
theorem OwnRow.lit (W : World) (base : Nat) {inner : List Value} (hr : Reps R size ps inner) (hb : base ≤ W.heap.size) (hm : ps.length ≤ 9223372036854775807) :
    OwnRow R e size (W.alloc (.cells inner.toArray e)) base (.slice (some ⟨W.heap.size, 0, none⟩) ps.length ps.length) ps := by
  have h := World.ownsRow_lit (base := base) (e := e) (size := size) W inner.toArray ps.length hb (by simpa [maxLen] using hm) (by simpa using hr.1)
  exact ⟨inner, by simpa using h, hr⟩
end
section
variable {P : Program} {ops : Array Oper} {rest : List Oper} {o : Oper} {a : Act} {Q : Exit → Act → World → Prop} {α : Type} {R : α → List Value → Prop}
/-- append(v, x): x's cells are cs. R is that of the world AHEAD; move it over hg ('OwnRow.imp_'). -/
theorem OwnRow.append {w0 W : World} (base : Nat) (hgd : o.guard = none) (s x : Operand) (t e : TypeId) (z : Value) (size bytes : Nat)
    (ho : o.op = .call { callee := .builtin .append, args := #[s, x], argTypes := #[t, t] })
    (ht : P.underlying t = some (.slice e)) (hinfo : (P.info? e).map (fun i => (i.zero, i.size, i.bytes)) = some (some z, size, bytes)) (hz : z.cells.size = size) (hs0 : 0 < size) (hb0 : 0 < bytes)
    (v : Value) (ps : List α) (p : α) (cs : List Value) (hs : a.eval s = v) (hx : a.eval x = .slice (some ⟨W.heap.size, 0, none⟩) 1 1) (hp : R p cs) (hcs : cs.length = size) (h1 : ∀ u ∈ cs, u.oneCell' = true)
    (HO : OwnRow R e size W base v ps) (HB : Below base w0 W) (hbase : base ≤ W.heap.size) (hl : (ps.length + 1) * bytes ≤ 140737488355328)
    (h : ∀ v1 w1, OwnRow R e size w1 base v1 (ps ++ [p]) → Below base w0 w1 → W.grownBy w1 v.ownBlock → (v1.ownBlock = v.ownBlock ∨ ∃ b, v1.ownBlock = some b ∧ W.heap.size ≤ b) → wpList P ops Q rest (a.put o.dst v1) w1) :
    wpList P ops Q (o :: rest) a (W.alloc (.cells cs.toArray e)) := by
  obtain ⟨inner, hown, hr⟩ := HO
  refine print_append_cells base hgd s x t e z size bytes ho ht hinfo hz hs0 hb0 v ps.length inner cs hs hx hcs h1 hown HB hbase hl ?_
  intro v1 w1 hown1 hb1 hg1 hat1
  exact h v1 w1 ⟨inner ++ cs, by rw [List.length_append, List.length_singleton]; exact hown1, hr.snoc hp hcs⟩ hb1 hg1 hat1
end
section
end
section
end
section
end
/-- ok: which blocks the rows inside may be ('not the row that is being written'). -/
structure Kd (α : Type) where
  sz : Nat
  E : List Nat
  K : World → α → List Value → Prop
  M : World → Nat → (Nat → Prop) → α → List Value → Prop
  K_len : ∀ {w x cs}, K w x cs → cs.length = sz
  K_one : ∀ {w x cs}, K w x cs → ∀ u ∈ cs, u.oneCell' = true
  K_below : ∀ {w w1 : World} {x cs}, Below w.heap.size w w1 → K w x cs → K w1 x cs
  K_of_M : ∀ {w base ok x cs}, M w base ok x cs → K w x cs
  M_mono : ∀ {w base ok ok' x cs}, (∀ k, ok k → ok' k) → M w base ok x cs → M w base ok' x cs
  M_bound : ∀ {w : World} {base ok x cs}, M w base ok x cs → M w base (fun k => ok k ∧ base ≤ k ∧ k < w.heap.size ∧ ∃ q, q ∈ E ∧ ∃ cells, w.heap[k]? = some (.cells cells q (0, 0))) x cs
  M_move : ∀ {w w1 : World} {base ok x cs}, (∀ k, ok k → w1.heap[k]? = w.heap[k]?) → M w base ok x cs → M w1 base ok x cs
  M_lower : ∀ {w base base' ok x cs}, base' ≤ base → M w base ok x cs → M w base' ok x cs
theorem own_move {w w1 : World} {base : Nat} {e : TypeId} {size n : Nat} {v : Value} {xs : List Value} (h : w.ownsRow base e size v n xs) (hm : ∀ k, v.ownBlock = some k → w1.heap[k]? = w.heap[k]?) : w1.ownsRow base e size v n xs := by
  obtain ⟨h1, h2⟩ := h
  refine ⟨h1, ?_⟩
  rcases h2 with h2 | ⟨g, cap, cur, rfl, hg, hh, r⟩
  · exact .inl h2
  · exact .inr ⟨g, cap, cur, rfl, hg, (hm g (by simp [Value.ownBlock])).trans hh, r⟩
theorem own_typed {w : World} {base : Nat} {e : TypeId} {size n : Nat} {v : Value} {xs : List Value} (h : w.ownsRow base e size v n xs) (k : Nat) (hk : v.ownBlock = some k) : ∃ cells, w.heap[k]? = some (.cells cells e (0, 0)) := by
  rcases h.2 with ⟨rfl, _⟩ | ⟨g, cap, cur, rfl, hg, hh, r⟩
  · simp [Value.ownBlock] at hk
  · have : g = k := by simpa [Value.ownBlock] using hk
    subst this
    exact ⟨cur, hh⟩
namespace Kd
/-- A row of elements that is read. -/
def C {α : Type} (d : Kd α) (w : World) (A : Option Addr) (n : Nat) (xs : List α) : Prop := ReadsRow (d.K w) d.sz w A n xs
/-- A row of elements (type e) of the call's own; the elements' rows are not this one. -/
def R {α : Type} (d : Kd α) (e : Nat) (w : World) (base : Nat) (ok : Nat → Prop) (v : Value) (xs : List α) : Prop :=
  (∀ k, v.ownBlock = some k → ok k) ∧ OwnRow (d.M w base (fun k => ok k ∧ some k ≠ v.ownBlock)) e d.sz w base v xs
section
variable {α : Type} {d : Kd α} {e : Nat} {w w1 : World} {base : Nat} {ok ok' : Nat → Prop} {v : Value} {xs : List α}
theorem C_below {A : Option Addr} {n : Nat} (h : d.C w A n xs) (hb : Below w.heap.size w w1) : d.C w1 A n xs := ReadsRow.imp_ h hb (fun _ _ hp => d.K_below hb hp)
theorem R_mono (h : d.R e w base ok v xs) (hok : ∀ k, ok k → ok' k) : d.R e w base ok' v xs := ⟨fun k hk => hok k (h.1 k hk), h.2.imp_ (fun _ _ hp => d.M_mono (fun k hk => ⟨hok k hk.1, hk.2⟩) hp)⟩
theorem R_bound (h : d.R e w base ok v xs) : d.R e w base (fun k => ok k ∧ base ≤ k ∧ k < w.heap.size ∧ ∃ q, q ∈ e :: d.E ∧ ∃ cells, w.heap[k]? = some (.cells cells q (0, 0))) v xs := by
  obtain ⟨h0, inner, ho, hr⟩ := h
  refine ⟨fun k hk => ?_, inner, ho, hr.imp_ (fun _ _ hp => d.M_mono (fun k hk => ?_) (d.M_bound hp))⟩
  · obtain ⟨cells, hc⟩ := own_typed ho k hk
    exact ⟨h0 k hk, own_base ho k hk, own_lt ho k hk, e, List.mem_cons_self, cells, hc⟩
  · obtain ⟨⟨h1, h2⟩, h3, h4, q, hq, hc⟩ := hk
    exact ⟨⟨h1, h3, h4, q, List.mem_cons_of_mem _ hq, hc⟩, h2⟩
theorem R_move (h : d.R e w base ok v xs) (hm : ∀ k, ok k → w1.heap[k]? = w.heap[k]?) : d.R e w1 base ok v xs := by
  obtain ⟨h0, inner, ho, hr⟩ := h
  exact ⟨h0, inner, own_move ho (fun k hk => hm k (h0 k hk)), hr.imp_ (fun _ _ hp => d.M_move (fun k hk => hm k hk.1) hp)⟩
theorem R_lower {base' : Nat} (h : d.R e w base ok v xs) (hb : base' ≤ base) : d.R e w base' ok v xs := by
  obtain ⟨h0, inner, ho, hr⟩ := h
  exact ⟨h0, inner, own_weaken ho hb, hr.imp_ (fun _ _ hp => d.M_lower hb hp)⟩
theorem R_reads (h : d.R e w base ok v xs) : ∃ A c, v = .slice A xs.length c ∧ xs.length ≤ c ∧ d.C w A xs.length xs := by
  obtain ⟨A, c, he, hl, hr⟩ := OwnRow.reads h.2
  exact ⟨A, c, he, hl, hr.imp_ (Below.refl _ _) (fun _ _ hp => d.K_of_M hp)⟩
end
def scalar {α : Type} (enc : α → Value) (h1 : ∀ x, (enc x).oneCell' = true) : Kd α where
  sz := 1
  E := []
  K := fun _ x cs => cs = [enc x]
  M := fun _ _ _ x cs => cs = [enc x]
  K_len := fun h => by rw [h]; rfl
  K_one := fun h u hu => by
    rw [h] at hu
    rw [List.mem_singleton.1 hu]
    exact h1 _
  K_below := fun _ h => h
  K_of_M := fun h => h
  M_mono := fun _ h => h
  M_bound := fun h => h
  M_move := fun _ h => h
  M_lower := fun _ h => h
def int (k : IntKind) : Kd Int := scalar (Value.int k) (fun _ => rfl)
def bool : Kd Bool := scalar Value.bool (fun _ => rfl)
def string : Kd ByteArray := scalar Value.string (fun _ => rfl)
def slice {α : Type} (e : Nat) (d : Kd α) : Kd (List α) where
  sz := 1
  E := e :: d.E
  K := fun w xs cs => ∃ A c, cs = [.slice A xs.length c] ∧ xs.length ≤ c ∧ d.C w A xs.length xs
  M := fun w base ok xs cs => ∃ v, cs = [v] ∧ d.R e w base ok v xs
  K_len := by
    rintro w x cs ⟨A, c, rfl, _⟩
    rfl
  K_one := by
    rintro w x cs ⟨A, c, rfl, _⟩ u hu
    rw [List.mem_singleton.1 hu]
    rfl
  K_below := by
    rintro w w1 x cs hb ⟨A, c, rfl, hl, hr⟩
    exact ⟨A, c, rfl, hl, C_below hr hb⟩
  K_of_M := by
    rintro w base ok x cs ⟨v, rfl, h⟩
    obtain ⟨A, c, rfl, hl, hr⟩ := R_reads h
    exact ⟨A, c, rfl, hl, hr⟩
  M_mono := by
    rintro w base ok ok' x cs hok ⟨v, rfl, h⟩
    exact ⟨v, rfl, R_mono h hok⟩
  M_bound := by
    rintro w base ok x cs ⟨v, rfl, h⟩
    exact ⟨v, rfl, R_bound h⟩
  M_move := by
    rintro w w1 base ok x cs hm ⟨v, rfl, h⟩
    exact ⟨v, rfl, R_move h hm⟩
  M_lower := by
    rintro w base base' ok x cs hb ⟨v, rfl, h⟩
    exact ⟨v, rfl, R_lower h hb⟩
section
end
section
end
end Kd
namespace Kd
section
end
end Kd
namespace Kd
end Kd
namespace Kd
section
end
section
end
section
end
end Kd
section
end
/-- A row of one's own that may begin inside its block. -/
def QRow (w : World) (base : Nat) (e : TypeId) (size : Nat) (v : Value) (n : Nat) (xs : List Value) : Prop :=
  xs.length = n * size ∧
  ((n = 0 ∧ ∃ A, v = .slice A 0 0 ∧ ∀ a, A = some a → base ≤ a.block ∧ ∃ cur, w.heap[a.block]? = some (.cells cur e (0, 0))) ∨
   ∃ g off cap cur, v = .slice (some ⟨g, off * size, none⟩) n cap ∧ base ≤ g ∧ w.heap[g]? = some (.cells cur e (0, 0)) ∧ n ≤ cap ∧ off + cap ≤ maxLen ∧ cur.size = (off + cap) * size ∧ (cur.toList.drop (off * size)).take (n * size) = xs)
section
end
section
end
namespace Kd
def Q {α : Type} (d : Kd α) (e : Nat) (w : World) (base : Nat) (ok : Nat → Prop) (v : Value) (xs : List α) : Prop :=
  (∀ k, v.ownBlock = some k → ok k) ∧ ∃ inner, QRow w base e d.sz v xs.length inner ∧ Reps (d.M w base (fun k => ok k ∧ some k ≠ v.ownBlock)) d.sz xs inner
section
end
section
end
end Kd
namespace Kd
section
end
end Kd
namespace Kd
section
end
end Kd
namespace Kd
def fixed {α : Type} (d : Kd α) (w0 : World) : Kd α where
  sz := d.sz
  E := []
  K := fun _ x cs => d.K w0 x cs
  M := fun _ _ _ x cs => d.K w0 x cs
  K_len := d.K_len
  K_one := d.K_one
  K_below := fun _ h => h
  K_of_M := fun h => h
  M_mono := fun _ h => h
  M_bound := fun h => h
  M_move := fun _ h => h
  M_lower := fun _ h => h
def or_ {α : Type} (a b : Kd α) (h : b.sz = a.sz) : Kd α where
  sz := a.sz
  E := a.E ++ b.E
  K := fun w x cs => a.K w x cs ∨ b.K w x cs
  M := fun w base ok x cs => a.M w base ok x cs ∨ b.M w base ok x cs
  K_len := fun hk => hk.elim a.K_len (fun hk => (b.K_len hk).trans h)
  K_one := fun hk => hk.elim a.K_one b.K_one
  K_below := fun hb hk => hk.imp (a.K_below hb) (b.K_below hb)
  K_of_M := fun hk => hk.imp a.K_of_M b.K_of_M
  M_mono := fun hok hk => hk.imp (a.M_mono hok) (b.M_mono hok)
  M_bound := fun hk => hk.imp
    (fun hk => a.M_mono (fun _ ⟨h1, h2, h3, q, hq, hc⟩ => ⟨h1, h2, h3, q, List.mem_append_left _ hq, hc⟩) (a.M_bound hk))
    (fun hk => b.M_mono (fun _ ⟨h1, h2, h3, q, hq, hc⟩ => ⟨h1, h2, h3, q, List.mem_append_right _ hq, hc⟩) (b.M_bound hk))
  M_move := fun hm hk => hk.imp (a.M_move hm) (b.M_move hm)
  M_lower := fun hb hk => hk.imp (a.M_lower hb) (b.M_lower hb)
/-- A slice whose elements are read by d when it came in, and are of kind dm when it is made. -/
def mix {α : Type} (e : Nat) (d dm : Kd α) (w0 : World) : Kd (List α) := or_ (fixed (slice e d) w0) (slice e dm) rfl
section
end
end Kd
namespace Kd
section
end
end Kd
namespace Kd
section
end
end Kd
namespace Kd
section
end
end Kd
section
end
theorem ReadsInt.nil (W : World) (k : IntKind) : ReadsInt W k none ([] : List Int).length [] := ⟨rfl, by simp, fun h => absurd h (Nat.lt_irrefl 0)⟩
theorem keep_cell {w W : World} {g : Nat} (h : KeepBut w W g none) {a : Addr} {v : Value} (hc : w.cell? a = some v) (hne : a.block ≠ g) : W.cell? a = some v := by
  have := h.2 a.block (World.block_lt_of_cell? w a hc) hne (by simp)
  simpa [World.cell?, this] using hc
theorem add_block (a : Addr) (i : Nat) : (a.add i).block = a.block := by unfold Addr.add; split <;> rfl
theorem ReadsOf.nil {α : Type} (enc : α → Value) (d : α) (W : World) : ReadsOf enc d W none ([] : List α).length [] := ⟨rfl, by simp, fun h => absurd h (Nat.lt_irrefl 0)⟩
theorem ReadsInt.keep {w W : World} {k : IntKind} {A : Option Addr} {n g : Nat} {xs : List Int} (h : ReadsInt w k A n xs) (hk : KeepBut w W g none) (hf : ∀ ad, A = some ad → 0 < n → ad.block ≠ g) : ReadsInt W k A n xs :=
  ⟨h.1, h.2.1, fun hn => by
    obtain ⟨ad, e, hc⟩ := h.2.2 hn
    exact ⟨ad, e, fun j hj => keep_cell hk (hc j hj) (by rw [add_block]; exact hf ad e hn)⟩⟩
theorem ReadsOf.keep {α : Type} {enc : α → Value} {d : α} {w W : World} {A : Option Addr} {n g : Nat} {xs : List α} (h : ReadsOf enc d w A n xs) (hk : KeepBut w W g none) (hf : ∀ ad, A = some ad → 0 < n → ad.block ≠ g) : ReadsOf enc d W A n xs :=
  ⟨h.1, h.2.1, fun hn => by
    obtain ⟨ad, e, hc⟩ := h.2.2 hn
    exact ⟨ad, e, fun j hj => keep_cell hk (hc j hj) (by rw [add_block]; exact hf ad e hn)⟩⟩
namespace Kd
section
end
section
end
end Kd
namespace Kd
section
end
end Kd
section
end
namespace Kd
section
end
end Kd
section
end
namespace Kd
section
end
end Kd
section
end
section
namespace Kd
end Kd
end
section
end
namespace Kd
section
end
section
end
end Kd
end Go.Proofs.YtjpaichcaaacbaaDoorW.PrintWords
end
section
namespace Go.Proofs.YtjpaichcaaacbaaDoorW.PrintLast
open Go.Proofs.YtjpaichcaaacbaaDoorW.PrintWords (Aside0)
def needsOf (md : Region.Mode) (o : Oper) : List Nat := (o.after.toList.filter (fun e => Region.binds md e)).map (fun e => e.on)
def clashOf (md : Region.Mode) (ops : Array Oper) (i : Nat) (oi : Oper) : List Nat := (List.range ops.size).filter fun j => !(j == i) && match ops[j]? with
  | some oj => !(oj.after.any (fun e => Region.binds md e && e.on == i) || oi.apart ops oj)
  | none => false
/-- No select in it; for each operation: what must have come up before it, and what may not come up behind it if it is taken first. -/
def rtab (md : Region.Mode) (ops : Array Oper) : Bool × List (List Nat × List Nat) := (Region.noSelect ops, (List.range ops.size).map fun i => match ops[i]? with
  | some o => (needsOf md o, clashOf md ops i o)
  | none => ([], []))
def readyAt (T : List (List Nat × List Nat)) (l : List Bool) (i : Nat) : Bool := !l.getD i true && match T[i]? with
  | some r => r.1.all (fun j => l.getD j false)
  | none => false
def readyT (T : List (List Nat × List Nat)) (l : List Bool) : List Nat := (List.range T.length).filter (readyAt T l)
section
variable {md : Region.Mode} {ops : Array Oper} {T : Bool × List (List Nat × List Nat)} {l l' li lj lk : Array Bool} {ds : List Nat} {i j k : Nat}
theorem gd (l : Array Bool) (j : Nat) (b : Bool) : l.getD j b = l.toList.getD j b := by simp [Array.getD_eq_getD_getElem?, List.getD_eq_getElem?_getD]
theorem needs_all (o : Oper) (p : Nat → Bool) : o.after.all (fun e => !Region.binds md e || p e.on) = (needsOf md o).all p := by
  unfold needsOf
  rw [← Array.all_toList]
  induction o.after.toList with
  | nil => rfl
  | cons e r ih =>
    rw [List.all_cons, ih, List.filter_cons]
    cases h : Region.binds md e <;> simp
theorem rtab_length : (rtab md ops).2.length = ops.size := by simp [rtab]
theorem rtab_some {o : Oper} (h : ops[i]? = some o) : (rtab md ops).2[i]? = some (needsOf md o, clashOf md ops i o) := by
  have hi := (Array.getElem?_eq_some_iff.1 h).1
  unfold rtab
  rw [List.getElem?_map, List.getElem?_range hi, Option.map_some, h]
theorem rtab_none (h : ops[i]? = none) : (rtab md ops).2[i]? = none := by
  have hi : ops.size ≤ i := Array.getElem?_eq_none_iff.1 h
  exact List.getElem?_eq_none (by rw [rtab_length]; exact hi)
theorem readyAt_eq : readyAt (rtab md ops).2 l.toList i = (!l.getD i true && ((ops[i]?).map (·.after.all fun e => !Region.binds md e || l.getD e.on false)).getD false) := by
  unfold readyAt
  rw [gd]
  cases h : ops[i]? with
  | none => rw [rtab_none h]; rfl
  | some o =>
    rw [rtab_some h]
    simp only [Option.map_some, Option.getD_some]
    rw [← needs_all]
    simp only [gd]
theorem ready_eq : Region.ready md ops l = readyT (rtab md ops).2 l.toList := by
  unfold Region.ready readyT
  rw [rtab_length]
  refine List.filter_congr (fun i _ => ?_)
  rw [readyAt_eq]
theorem set_of (h : (l.toList.set i true == l'.toList) = true) : (l.setIfInBounds i true == l') = true := by
  rw [beq_iff_eq] at h ⊢
  apply Array.ext'
  rw [Array.toList_setIfInBounds]
  exact h
/-- one_'s and last_'s. -/
theorem one_of (hT : rtab md ops = T) (h : (readyT T.2 l.toList == [i] && l.toList.set i true == l'.toList) = true) : readyB md ops l l' i = true := by
  simp only [Bool.and_eq_true] at h
  obtain ⟨h1, h2⟩ := h
  subst hT
  simp only [readyB, Bool.and_eq_true]
  exact ⟨by rw [ready_eq]; exact h1, set_of h2⟩
end
end Go.Proofs.YtjpaichcaaacbaaDoorW.PrintLast
end
namespace Go.Proofs.YtjpaichcaaacbaaDoorW.PrintLast
end Go.Proofs.YtjpaichcaaacbaaDoorW.PrintLast
namespace Go.Proofs.YtjpaichcaaacbaaDoorW.PrintWords
end Go.Proofs.YtjpaichcaaacbaaDoorW.PrintWords
namespace Kd
end Kd
section
namespace Go.Proofs.YtjpaichcaaacbaaDoorW.PrintWords
open Go.RowKit
namespace Kd
/-- An element with its index: its blocks are those that f gives to it. -/
def tag {α : Type} (f : Nat → Nat) (d : Kd α) : Kd (α × Nat) where
  sz := d.sz
  E := d.E
  K := fun w x cs => d.K w x.1 cs
  M := fun w base ok x cs => d.M w base (fun k => ok k ∧ f k = x.2) x.1 cs
  K_len := fun h => d.K_len h
  K_one := fun h => d.K_one h
  K_below := fun hb h => d.K_below hb h
  K_of_M := fun h => d.K_of_M h
  M_mono := fun hok h => d.M_mono (fun k hk => ⟨hok k hk.1, hk.2⟩) h
  M_bound := fun h => d.M_mono (fun _ hk => ⟨⟨hk.1.1, hk.2⟩, hk.1.2⟩) (d.M_bound h)
  M_move := fun hm h => d.M_move (fun k hk => hm k hk.1) h
  M_lower := fun hb h => d.M_lower hb h
/-- The cells themselves. -/
def raw (sz : Nat) : Kd (List Value) where
  sz := sz
  E := []
  K := fun _ x cs => cs = x ∧ cs.length = sz ∧ ∀ u ∈ cs, u.oneCell' = true
  M := fun _ _ _ x cs => cs = x ∧ cs.length = sz ∧ ∀ u ∈ cs, u.oneCell' = true
  K_len := fun h => h.2.1
  K_one := fun h => h.2.2
  K_below := fun _ h => h
  K_of_M := fun h => h
  M_mono := fun _ h => h
  M_bound := fun h => h
  M_move := fun _ h => h
  M_lower := fun _ h => h
/-- A row of elements (type e) of the call's own, no two of which lead to one block. -/
def S {α : Type} (d : Kd α) (e : Nat) (w : World) (base : Nat) (ok : Nat → Prop) (v : Value) (xs : List α) : Prop := ∃ f, (tag f d).R e w base ok v xs.zipIdx
section
end
section
end
section
end
/-- Element i is these cells; the others are d's. -/
def gap {α : Type} (f : Nat → Nat) (d : Kd α) (i : Nat) (c : List Value) : Kd (α × Nat) where
  sz := d.sz
  E := d.E
  K := fun w x cs => (x.2 = i → cs = c ∧ cs.length = d.sz ∧ ∀ u ∈ cs, u.oneCell' = true) ∧ (x.2 ≠ i → d.K w x.1 cs)
  M := fun w base ok x cs => (x.2 = i → cs = c ∧ cs.length = d.sz ∧ ∀ u ∈ cs, u.oneCell' = true) ∧ (x.2 ≠ i → d.M w base (fun k => ok k ∧ f k = x.2) x.1 cs)
  K_len := fun {w x cs} h => by
    by_cases hx : x.2 = i
    · exact (h.1 hx).2.1
    · exact d.K_len (h.2 hx)
  K_one := fun {w x cs} h => by
    by_cases hx : x.2 = i
    · exact (h.1 hx).2.2
    · exact d.K_one (h.2 hx)
  K_below := fun hb h => ⟨h.1, fun hx => d.K_below hb (h.2 hx)⟩
  K_of_M := fun h => ⟨h.1, fun hx => d.K_of_M (h.2 hx)⟩
  M_mono := fun hok h => ⟨h.1, fun hx => d.M_mono (fun k hk => ⟨hok k hk.1, hk.2⟩) (h.2 hx)⟩
  M_bound := fun h => ⟨h.1, fun hx => d.M_mono (fun _ hk => ⟨⟨hk.1.1, hk.2⟩, hk.1.2⟩) (d.M_bound (h.2 hx))⟩
  M_move := fun hm h => ⟨h.1, fun hx => d.M_move (fun k hk => hm k hk.1) (h.2 hx)⟩
  M_lower := fun hb h => ⟨h.1, fun hx => d.M_lower hb (h.2 hx)⟩
def H {α : Type} (d : Kd α) (e : Nat) (w : World) (base : Nat) (ok : Nat → Prop) (v : Value) (xs : List α) (i : Int) (oki : Nat → Prop) (c : List Value) : Prop :=
  (∀ k, oki k → ok k) ∧ ∃ f, (gap f d i.toNat c).R e w base (fun k => ok k ∧ ¬ oki k) v xs.zipIdx
section
end
section
end
end Kd
end Go.Proofs.YtjpaichcaaacbaaDoorW.PrintWords
end
namespace Go.Proofs.YtjpaichcaaacbaaDoorW.PrintWords
end Go.Proofs.YtjpaichcaaacbaaDoorW.PrintWords
namespace Kd
end Kd
namespace Go.Proofs.YtjpaichcaaacbaaDoorW.PrintWords
end Go.Proofs.YtjpaichcaaacbaaDoorW.PrintWords
namespace Kd
end Kd
section
namespace Go.Proofs.YtjpaichcaaacbaaDoorW.PrintWords
open Go.RowKit
namespace Kd
/-- What a kind reads lies in the blocks: nothing else of the world is looked at. -/
structure Heap {α : Type} (d : Kd α) : Prop where
  K : ∀ {w w1 : World} {x : α} {cs : List Value}, (∀ k, k < w.heap.size → w1.heap[k]? = w.heap[k]?) → d.K w x cs → d.K w1 x cs
theorem cell_heap {w w1 : World} (hb : ∀ k, k < w.heap.size → w1.heap[k]? = w.heap[k]?) {a : Addr} {v : Value} (h : w.cell? a = some v) : w1.cell? a = some v := by
  have := hb a.block (World.block_lt_of_cell? w a h)
  simpa [World.cell?, this] using h
theorem Heap.C {α : Type} {d : Kd α} (hd : Heap d) {w w1 : World} {A : Option Addr} {n : Nat} {xs : List α} (hb : ∀ k, k < w.heap.size → w1.heap[k]? = w.heap[k]?) (h : d.C w A n xs) : d.C w1 A n xs :=
  ⟨h.1, h.2.1, fun hn => by
    obtain ⟨ad, e, hc⟩ := h.2.2 hn
    refine ⟨ad, e, fun j p hj => ?_⟩
    obtain ⟨c, hs, hr, hcell⟩ := hc j p hj
    exact ⟨c, hs, hd.K hb hr, fun i u hu => cell_heap hb (hcell i u hu)⟩⟩
section
end
end Kd
end Go.Proofs.YtjpaichcaaacbaaDoorW.PrintWords
end
section
namespace Go.Proofs.YtjpaichcaaacbaaDoorW.PrintWords
open Go.RowKit
def Kept (w W : World) (S : Nat → Prop) : Prop := w.heap.size ≤ W.heap.size ∧ ∀ i, i < w.heap.size → ¬ S i → W.heap[i]? = w.heap[i]?
section
variable {w W W2 : World} {S S2 S' : Nat → Prop}
theorem Kept.refl (w : World) (S : Nat → Prop) : Kept w w S := ⟨Nat.le_refl _, fun _ _ _ => rfl⟩
theorem Kept.of_below (h : Below w.heap.size w W) (S : Nat → Prop) : Kept w W S := ⟨h.size, fun i hi _ => h.block i hi⟩
theorem Kept.mono (h : Kept w W S) (hs : ∀ k, S k → S' k) : Kept w W S' := ⟨h.1, fun i hi hn => h.2 i hi (fun hk => hn (hs i hk))⟩
theorem Kept.then_ (h : Kept w W S) (k : Kept W W2 S2) (hs : ∀ k, S2 k → S k ∨ w.heap.size ≤ k) : Kept w W2 S :=
  ⟨Nat.le_trans h.1 k.1, fun i hi hn => (k.2 i (Nat.lt_of_lt_of_le hi h.1) (fun h2 => (hs i h2).elim hn (fun h3 => by omega))).trans (h.2 i hi hn)⟩
theorem Kept.below (h : Kept w W S) (hb : Below W.heap.size W W2) : Kept w W2 S := h.then_ (Kept.of_below hb (fun _ => False)) (fun _ hk => hk.elim)
theorem Kept.alloc (h : Kept w W S) (o : Obj) : Kept w (W.alloc o) S := h.below (below_alloc (Below.refl _ _) o)
/-- Beside a state: what was written is new since. -/
theorem Kept.keep {g : Nat} (h : KeepBut w W g none) (k : Kept W W2 S2) (hs : ∀ k, S2 k → w.heap.size ≤ k) : KeepBut w W2 g none :=
  ⟨Nat.le_trans h.1 k.1, fun i hi hg hr => (k.2 i (Nat.lt_of_lt_of_le hi h.1) (fun h2 => by have := hs i h2; omega)).trans (h.2 i hi hg hr)⟩
end
namespace Kd
section
end
end Kd
end Go.Proofs.YtjpaichcaaacbaaDoorW.PrintWords
end
section
namespace Go.Proofs.YtjpaichcaaacbaaDoorW.PrintWords
open Go.RowKit
/-- P holds in W and in every world that has W's blocks of ok. -/
def Foot (P : World → Prop) (W : World) (ok : Nat → Prop) : Prop := ∀ W' : World, (∀ k, ok k → k < W.heap.size → W'.heap[k]? = W.heap[k]?) → P W'
theorem heap_lt {W W1 : World} {k : Nat} (h : W1.heap[k]? = W.heap[k]?) (hlt : k < W.heap.size) : k < W1.heap.size := by
  rw [Array.getElem?_eq_getElem hlt] at h
  exact (Array.getElem?_eq_some_iff.1 h).1
namespace Foot
variable {P Q : World → Prop} {W W1 : World} {ok ok' : Nat → Prop}
theorem mono (h : Foot P W ok) (hok : ∀ k, ok k → ok' k) : Foot P W ok' := fun W' hW => h W' (fun k hk hlt => hW k (hok k hk) hlt)
theorem bound (h : Foot P W ok) : Foot P W (fun k => ok k ∧ k < W.heap.size) := fun W' hW => h W' (fun k hk hlt => hW k ⟨hk, hlt⟩ hlt)
theorem step (h : Foot P W ok) (hm : ∀ k, ok k → k < W.heap.size → W1.heap[k]? = W.heap[k]?) : Foot P W1 ok := fun W' hW => h W' (fun k hk hlt => (hW k hk (heap_lt (hm k hk hlt) hlt)).trans (hm k hk hlt))
/-- Moved, and still elder than what is new since W. -/
theorem old (h : Foot P W ok) (hb : Below W.heap.size W W1) : Foot P W1 (fun k => ok k ∧ k < W.heap.size) := (h.bound).step (fun k _ hlt => hb.block k hlt)
end Foot
namespace Kd
/-- A row that is only read: what it leads to lies in ok. -/
def F {α : Type} (d : Kd α) (W : World) (ok : Nat → Prop) (A : Option Addr) (n : Nat) (xs : List α) : Prop := Foot (fun W => d.C W A n xs) W ok
/-- An element's cells: what they lead to lies in ok. -/
def FK {α : Type} (d : Kd α) (W : World) (ok : Nat → Prop) (x : α) (c : List Value) : Prop := Foot (fun W => d.K W x c) W ok
section
end
end Kd
end Go.Proofs.YtjpaichcaaacbaaDoorW.PrintWords
end
section
namespace Go.Proofs.YtjpaichcaaacbaaDoorW.PrintWords
open Go.RowKit
namespace Kd
section
variable {α : Type} {d : Kd α} {e base n cc g : Nat} {ok ok' okp S : Nat → Prop} {w w1 W W1 : World} {A : Option Addr} {u v v1 : Value} {xs : List α} {x : α} {c : List Value}
/-- A row of elements (type e) of the call's own; what the elements lead to is only read, and is not this row. -/
def N {α : Type} (d : Kd α) (e : Nat) (w : World) (base : Nat) (ok : Nat → Prop) (v : Value) (xs : List α) : Prop :=
  (∀ k, v.ownBlock = some k → ok k) ∧ ∃ rows : List (List Value), rows.length = xs.length ∧ (raw d.sz).R e w base (fun k => some k = v.ownBlock) v rows ∧ ∀ (j : Nat) (x : α) (c : List Value), xs[j]? = some x → rows[j]? = some c → FK d w (fun k => ok k ∧ some k ≠ v.ownBlock) x c
end
end Kd
end Go.Proofs.YtjpaichcaaacbaaDoorW.PrintWords
end
namespace Go.Proofs.YtjpaichcaaacbaaDoorW.PrintWords
end Go.Proofs.YtjpaichcaaacbaaDoorW.PrintWords
namespace Kd
end Kd
namespace Go.Proofs.YtjpaichcaaacbaaDoorW.PrintWords
end Go.Proofs.YtjpaichcaaacbaaDoorW.PrintWords
namespace Kd
end Kd
section
namespace Go.Proofs.YtjpaichcaaacbaaDoorW.PrintWords
/-- One cell an element. -/
theorem Reps.one {α : Type} {R : α → List Value → Prop} {ps : List α} {cs : List Value} {p : α} {v : Value} (hp : R p [v]) (h : Reps R 1 ps cs) : Reps R 1 (p :: ps) (v :: cs) := by
  refine ⟨by simp [h.1], fun j q hq => ?_⟩
  cases j with
  | zero =>
    simp only [List.getElem?_cons_zero, Option.some.injEq] at hq
    subst hq
    simpa using hp
  | succ j =>
    simp only [List.getElem?_cons_succ] at hq
    have h1 := h.2 j q hq
    simpa [Nat.mul_one] using h1
/-- More cells an element: told apart by the cells' list. -/
theorem Reps.front {α : Type} {R : α → List Value → Prop} {size : Nat} {ps : List α} {cs c all : List Value} {p : α} (hp : R p c) (hc : c.length = size) (h : Reps R size ps cs) (ha : c ++ cs = all) : Reps R size (p :: ps) all := by
  subst ha
  refine ⟨by rw [List.length_append, hc, h.1, List.length_cons, Nat.succ_mul, Nat.add_comm], fun j q hq => ?_⟩
  cases j with
  | zero =>
    simp only [List.getElem?_cons_zero, Option.some.injEq] at hq
    subst hq
    rw [Nat.zero_mul, List.drop_zero, List.take_append_of_le_length (by omega), List.take_of_length_le (by omega)]
    exact hp
  | succ j =>
    simp only [List.getElem?_cons_succ] at hq
    have h1 := h.2 j q hq
    rw [Nat.succ_mul, List.drop_append, List.drop_of_length_le (by rw [hc]; exact Nat.le_add_left _ _), List.nil_append, hc, Nat.add_sub_cancel]
    exact h1
theorem Reps.c2 {α : Type} {R : α → List Value → Prop} {ps : List α} {cs : List Value} {p : α} {va vb : Value} (hp : R p [va, vb]) (h : Reps R 2 ps cs) : Reps R 2 (p :: ps) (va :: vb :: cs) := Reps.front hp rfl h rfl
theorem Reps.c3 {α : Type} {R : α → List Value → Prop} {ps : List α} {cs : List Value} {p : α} {va vb vc : Value} (hp : R p [va, vb, vc]) (h : Reps R 3 ps cs) : Reps R 3 (p :: ps) (va :: vb :: vc :: cs) := Reps.front hp rfl h rfl
theorem Reps.c4 {α : Type} {R : α → List Value → Prop} {ps : List α} {cs : List Value} {p : α} {va vb vc vd : Value} (hp : R p [va, vb, vc, vd]) (h : Reps R 4 ps cs) : Reps R 4 (p :: ps) (va :: vb :: vc :: vd :: cs) := Reps.front hp rfl h rfl
theorem Reps.c5 {α : Type} {R : α → List Value → Prop} {ps : List α} {cs : List Value} {p : α} {va vb vc vd ve : Value} (hp : R p [va, vb, vc, vd, ve]) (h : Reps R 5 ps cs) : Reps R 5 (p :: ps) (va :: vb :: vc :: vd :: ve :: cs) := Reps.front hp rfl h rfl
theorem Reps.c6 {α : Type} {R : α → List Value → Prop} {ps : List α} {cs : List Value} {p : α} {va vb vc vd ve vf : Value} (hp : R p [va, vb, vc, vd, ve, vf]) (h : Reps R 6 ps cs) : Reps R 6 (p :: ps) (va :: vb :: vc :: vd :: ve :: vf :: cs) := Reps.front hp rfl h rfl
theorem Reps.c7 {α : Type} {R : α → List Value → Prop} {ps : List α} {cs : List Value} {p : α} {va vb vc vd ve vf vg : Value} (hp : R p [va, vb, vc, vd, ve, vf, vg]) (h : Reps R 7 ps cs) : Reps R 7 (p :: ps) (va :: vb :: vc :: vd :: ve :: vf :: vg :: cs) := Reps.front hp rfl h rfl
theorem Reps.c8 {α : Type} {R : α → List Value → Prop} {ps : List α} {cs : List Value} {p : α} {va vb vc vd ve vf vg vh : Value} (hp : R p [va, vb, vc, vd, ve, vf, vg, vh]) (h : Reps R 8 ps cs) : Reps R 8 (p :: ps) (va :: vb :: vc :: vd :: ve :: vf :: vg :: vh :: cs) := Reps.front hp rfl h rfl
theorem Reps.c9 {α : Type} {R : α → List Value → Prop} {ps : List α} {cs : List Value} {p : α} {va vb vc vd ve vf vg vh vi : Value} (hp : R p [va, vb, vc, vd, ve, vf, vg, vh, vi]) (h : Reps R 9 ps cs) : Reps R 9 (p :: ps) (va :: vb :: vc :: vd :: ve :: vf :: vg :: vh :: vi :: cs) := Reps.front hp rfl h rfl
theorem Reps.c10 {α : Type} {R : α → List Value → Prop} {ps : List α} {cs : List Value} {p : α} {va vb vc vd ve vf vg vh vi vj : Value} (hp : R p [va, vb, vc, vd, ve, vf, vg, vh, vi, vj]) (h : Reps R 10 ps cs) : Reps R 10 (p :: ps) (va :: vb :: vc :: vd :: ve :: vf :: vg :: vh :: vi :: vj :: cs) := Reps.front hp rfl h rfl
end Go.Proofs.YtjpaichcaaacbaaDoorW.PrintWords
end
section
namespace Go.Proofs.YtjpaichcaaacbaaDoorW.PrintLast
/-- Number i is listed too. -/
def up (b : Nat → Bool) (i : Nat) : Nat → Bool := fun j => if j = i then true else b j
section
end
end Go.Proofs.YtjpaichcaaacbaaDoorW.PrintLast
end
namespace Go.Proofs.YtjpaichcaaacbaaDoorW.PrintWords
end Go.Proofs.YtjpaichcaaacbaaDoorW.PrintWords
namespace Go.Proofs.YtjpaichcaaacbaaDoorW.PrintLast
end Go.Proofs.YtjpaichcaaacbaaDoorW.PrintLast
namespace Go.Proofs.YtjpaichcaaacbaaDoorW.PrintWords
end Go.Proofs.YtjpaichcaaacbaaDoorW.PrintWords
namespace Go.Proofs.YtjpaichcaaacbaaDoorW.PrintWords
end Go.Proofs.YtjpaichcaaacbaaDoorW.PrintWords
namespace Kd
end Kd
section
namespace Go.Proofs.YtjpaichcaaacbaaDoorW.PrintMore
open Go.RowKit Go.Proofs.YtjpaichcaaacbaaDoorW.PrintWords
namespace Kd
open Go.Proofs.YtjpaichcaaacbaaDoorW.PrintWords.Kd
end Kd
namespace Kd
open Go.Proofs.YtjpaichcaaacbaaDoorW.PrintWords.Kd
section
end
end Kd
end Go.Proofs.YtjpaichcaaacbaaDoorW.PrintMore
namespace Go.Proofs.YtjpaichcaaacbaaDoorW.PrintWords
open Go.RowKit
section
variable {P : Program} {ops : Array Oper} {rest : List Oper} {o : Oper} {a : Act} {Q : Exit → Act → World → Prop} {W : World}
/-- The operation is a call of this function (a cheap look ahead of a dear step). -/
theorem gate_callee {f : FuncId} {as : Array Operand} {ts : Array TypeId} (_ho : o.op = .call { callee := .value (.func f), args := as, argTypes := ts }) (h : wpList P ops Q (o :: rest) a W) : wpList P ops Q (o :: rest) a W := h
end
/-- The greater of two whole numbers, as Go's max tells it. -/
def mx (a b : Int) : Int := if a < b then b else a
/-- A shift to the left, as Go tells it: a count beyond the width leaves nothing. -/
def shl (k : IntKind) (x y : Int) : Int := k.wrap (x * 2 ^ min y.toNat k.bits)
/-- A shift to the right: a count beyond the width leaves the sign. -/
def shr (k : IntKind) (x y : Int) : Int := x / 2 ^ min y.toNat k.bits
theorem shl_small {k : IntKind} {x y j : Int} (h : shl k x y = j) (hy : y ≤ k.bits) : k.wrap (x * 2 ^ y.toNat) = j := by rw [← h]; unfold shl; rw [Nat.min_eq_left (by omega)]
theorem shr_small {k : IntKind} {x y j : Int} (h : shr k x y = j) (hy : y ≤ k.bits) : x / 2 ^ y.toNat = j := by rw [← h]; unfold shr; rw [Nat.min_eq_left (by omega)]
namespace Kd
section
end
section
end
section
end
end Kd
end Go.Proofs.YtjpaichcaaacbaaDoorW.PrintWords
namespace Go.Proofs.YtjpaichcaaacbaaDoorW.PrintWords
open Go.RowKit
namespace Kd
/-- A row that is only read, told by its value: its form, its length, what it leads to (in ok). e and base say nothing; they make it as the others are. -/
def V {α : Type} (d : Kd α) (_e : Nat) (W : World) (_base : Nat) (ok : Nat → Prop) (v : Value) (xs : List α) : Prop := ∃ A c, v = .slice A xs.length c ∧ xs.length ≤ c ∧ F d W ok A xs.length xs
section
end
end Kd
end Go.Proofs.YtjpaichcaaacbaaDoorW.PrintWords
end
namespace Go.Proofs.YtjpaichcaaacbaaDoorW.PrintWords
end Go.Proofs.YtjpaichcaaacbaaDoorW.PrintWords
section
namespace Go.Proofs.YtjpaichcaaacbaaDoorNum
def IsPr (p : Nat) : Prop := 2 ≤ p ∧ ∀ d, d ∣ p → d = 1 ∨ d = p
theorem IsPr.coprime {p a : Nat} (hp : IsPr p) (h : ¬ p ∣ a) : Nat.Coprime p a := by
  rcases hp.2 (Nat.gcd p a) (Nat.gcd_dvd_left p a) with h1 | h1
  · exact h1
  · exact absurd (h1 ▸ Nat.gcd_dvd_right p a) h
theorem IsPr.dvd_mul {p a b : Nat} (hp : IsPr p) (h : p ∣ a * b) : p ∣ a ∨ p ∣ b := by
  by_cases ha : p ∣ a
  · exact .inl ha
  · exact .inr ((hp.coprime ha).dvd_of_dvd_mul_left h)
section
variable {p : Nat}
def sumF [NeZero p] (n : Nat) (f : Nat → Fin p) : Fin p := match n with
  | 0 => 0
  | n + 1 => sumF n f + f n
theorem sumF_congr [NeZero p] {n : Nat} {f g : Nat → Fin p} (h : ∀ i, i < n → f i = g i) : sumF n f = sumF n g := by
  induction n with
  | zero => rfl
  | succ n ih => simp only [sumF]; rw [ih (fun i hi => h i (by omega)), h n (by omega)]
theorem sumF_zero [NeZero p] (n : Nat) : sumF n (fun _ => (0 : Fin p)) = 0 := by
  induction n with
  | zero => rfl
  | succ n ih => simp only [sumF]; rw [ih]; grind
theorem sumF_add [NeZero p] (n : Nat) (f g : Nat → Fin p) : sumF n (fun i => f i + g i) = sumF n f + sumF n g := by
  induction n with
  | zero => simp only [sumF]; grind
  | succ n ih => simp only [sumF]; rw [ih]; grind
theorem sumF_mul [NeZero p] (n : Nat) (c : Fin p) (f : Nat → Fin p) : sumF n (fun i => c * f i) = c * sumF n f := by
  induction n with
  | zero => simp only [sumF]; grind
  | succ n ih => simp only [sumF]; rw [ih]; grind
theorem sumF_head [NeZero p] (n : Nat) (f : Nat → Fin p) : sumF (n + 1) f = f 0 + sumF n (fun i => f (i + 1)) := by
  induction n with
  | zero => simp only [sumF]; grind
  | succ n ih => rw [sumF, ih]; simp only [sumF]; grind
end
def choose : Nat → Nat → Nat
  | _, 0 => 1
  | 0, _ + 1 => 0
  | n + 1, k + 1 => choose n k + choose n (k + 1)
theorem choose_zero (n : Nat) : choose n 0 = 1 := by cases n <;> rfl
theorem choose_succ (n k : Nat) : choose (n + 1) (k + 1) = choose n k + choose n (k + 1) := rfl
theorem choose_gt (n : Nat) : ∀ k, n < k → choose n k = 0 := by
  induction n with
  | zero => intro k hk; cases k with
    | zero => omega
    | succ k => rfl
  | succ n ih => intro k hk; cases k with
    | zero => omega
    | succ k => rw [choose_succ, ih k (by omega), ih (k + 1) (by omega)]
theorem choose_self (n : Nat) : choose n n = 1 := by
  induction n with
  | zero => rfl
  | succ n ih => rw [choose_succ, ih, choose_gt n (n + 1) (by omega)]
theorem choose_mul (n : Nat) : ∀ k, (k + 1) * choose (n + 1) (k + 1) = (n + 1) * choose n k := by
  induction n with
  | zero => intro k; cases k with
    | zero => rfl
    | succ k => simp [choose]
  | succ n ih =>
    intro k
    cases k with
    | zero =>
      have h := ih 0
      rw [choose_succ, choose_zero]
      simp only [choose_zero, Nat.zero_add, Nat.one_mul, Nat.mul_one] at h ⊢
      omega
    | succ k =>
      have h1 := ih k
      have h2 := ih (k + 1)
      rw [choose_succ (n + 1) (k + 1)]
      have e : choose (n + 1) (k + 1) = choose n k + choose n (k + 1) := choose_succ n k
      grind
theorem dvd_choose {p : Nat} (hp : IsPr p) (k : Nat) (h0 : 0 < k) (hk : k < p) : p ∣ choose p k := by
  obtain ⟨n, rfl⟩ : ∃ n, p = n + 1 := ⟨p - 1, by have := hp.1; omega⟩
  obtain ⟨j, rfl⟩ : ∃ j, k = j + 1 := ⟨k - 1, by omega⟩
  have h := choose_mul n j
  rcases hp.dvd_mul (a := j + 1) (b := choose (n + 1) (j + 1)) ⟨choose n j, h⟩ with h1 | h1
  · have := Nat.le_of_dvd (by omega) h1
    omega
  · exact h1
section
variable {p : Nat}
def el [NeZero p] (n : Nat) : Fin p := Fin.ofNat p n
theorem el_val [NeZero p] (n : Nat) : (el n : Fin p).val = n % p := rfl
theorem el_of [NeZero p] (a : Fin p) : el a.val = a := by
  apply Fin.ext
  rw [el_val]
  exact Nat.mod_eq_of_lt a.isLt
theorem el_add [NeZero p] (m n : Nat) : (el (m + n) : Fin p) = el m + el n := by
  apply Fin.ext
  simp only [el_val, Fin.val_add]
  exact Nat.add_mod m n p
theorem el_mul [NeZero p] (m n : Nat) : (el (m * n) : Fin p) = el m * el n := by
  apply Fin.ext
  simp only [el_val, Fin.val_mul]
  exact Nat.mul_mod m n p
theorem el_zero [NeZero p] : (el 0 : Fin p) = 0 := by
  apply Fin.ext
  simp [el_val]
theorem el_one [NeZero p] : (el 1 : Fin p) = 1 := by
  apply Fin.ext
  rw [el_val]
  rfl
theorem el_succ [NeZero p] (n : Nat) : (el (n + 1) : Fin p) = el n + 1 := by rw [el_add, el_one]
theorem el_dvd [NeZero p] {n : Nat} (h : p ∣ n) : (el n : Fin p) = 0 := by
  apply Fin.ext
  rw [el_val, Nat.mod_eq_zero_of_dvd h]
  rfl
theorem el_eq_zero [NeZero p] {n : Nat} : (el n : Fin p) = 0 ↔ p ∣ n := by
  constructor
  · intro h
    have := congrArg Fin.val h
    rw [el_val] at this
    exact Nat.dvd_of_mod_eq_zero (by simpa using this)
  · exact el_dvd
theorem binom [NeZero p] (x : Fin p) (n : Nat) : (x + 1) ^ n = sumF (n + 1) (fun k => el (choose n k) * x ^ k) := by
  induction n with
  | zero => simp only [sumF, choose_zero, el_one]; grind
  | succ n ih =>
    have h1 : (x + 1) ^ (n + 1) = sumF (n + 1) (fun k => el (choose n k) * x ^ k) * (x + 1) := by rw [← ih]; grind
    rw [h1, sumF_head (n + 1)]
    have h2 : ∀ k, el (choose (n + 1) (k + 1)) * x ^ (k + 1) = x * (el (choose n k) * x ^ k) + (el (choose n (k + 1)) * x ^ (k + 1) : Fin p) := by
      intro k
      rw [choose_succ, el_add]
      grind
    rw [sumF_congr (fun i _ => h2 i), sumF_add, sumF_mul]
    have h3 : sumF (n + 1) (fun i => el (choose n (i + 1)) * x ^ (i + 1)) + (el (choose n 0) * x ^ 0 : Fin p) = sumF (n + 1) (fun k => el (choose n k) * x ^ k) := by
      have h4 := sumF_head (n + 1) (fun k => el (choose n k) * x ^ k)
      have h5 : sumF (n + 1 + 1) (fun k => el (choose n k) * x ^ k) = sumF (n + 1) (fun k => el (choose n k) * x ^ k) + (el (choose n (n + 1)) * x ^ (n + 1) : Fin p) := rfl
      rw [choose_gt n (n + 1) (by omega), el_zero] at h5
      grind
    rw [choose_zero] at h3 ⊢
    grind
theorem freshman [NeZero p] (hp : IsPr p) (x : Fin p) : (x + 1) ^ p = x ^ p + 1 := by
  obtain ⟨n, hn⟩ : ∃ n, p = n + 1 := ⟨p - 1, by have := hp.1; omega⟩
  rw [binom x p]
  simp only [sumF]
  rw [choose_self, el_one]
  have h2 : sumF p (fun k => el (choose p k) * x ^ k) = 1 := by
    have h3 := sumF_head n (fun k => el (choose p k) * x ^ k)
    rw [← hn] at h3
    rw [h3, choose_zero, el_one, sumF_congr (g := fun _ => 0) (fun i hi => ?_), sumF_zero]
    · grind
    · rw [el_dvd (dvd_choose hp (i + 1) (by omega) (by omega))]
      grind
  rw [h2]
  grind
theorem pw_succ [NeZero p] (b : Fin p) (n : Nat) : b ^ (n + 1) = b ^ n * b := by grind
theorem pow_zero_pos [NeZero p] (n : Nat) (hn : 0 < n) : (0 : Fin p) ^ n = 0 := by
  obtain ⟨m, rfl⟩ : ∃ m, n = m + 1 := ⟨n - 1, by omega⟩
  grind
theorem flt [NeZero p] (hp : IsPr p) (x : Fin p) : x ^ p = x := by
  have key : ∀ n : Nat, (el n : Fin p) ^ p = el n := by
    intro n
    induction n with
    | zero => rw [el_zero]; exact pow_zero_pos p (by have := hp.1; omega)
    | succ n ih => rw [el_succ, freshman hp, ih]
  have := key x.val
  rwa [el_of] at this
theorem one_ne [NeZero p] (hp : IsPr p) : (1 : Fin p) ≠ 0 := by
  intro h
  have h2 : (el 1 : Fin p) = 0 := by rw [el_one, h]
  have := Nat.le_of_dvd (by omega) (el_eq_zero.1 h2)
  have := hp.1
  omega
theorem no_zero_div [NeZero p] (hp : IsPr p) {a b : Fin p} (h : a * b = 0) : a = 0 ∨ b = 0 := by
  have h2 : (el (a.val * b.val) : Fin p) = 0 := by rw [el_mul, el_of, el_of]; exact h
  rcases hp.dvd_mul (el_eq_zero.1 h2) with h3 | h3
  · left; rw [← el_of a]; exact el_eq_zero.2 h3
  · right; rw [← el_of b]; exact el_eq_zero.2 h3
theorem mul_cancel [NeZero p] (hp : IsPr p) {a b c : Fin p} (ha : a ≠ 0) (h : a * b = a * c) : b = c := by
  have h2 : a * (b - c) = 0 := by grind
  rcases no_zero_div hp h2 with h3 | h3
  · exact absurd h3 ha
  · grind
theorem pow_ne_zero [NeZero p] (hp : IsPr p) {a : Fin p} (ha : a ≠ 0) (n : Nat) : a ^ n ≠ 0 := by
  induction n with
  | zero => intro h; exact one_ne hp (by grind)
  | succ n ih =>
    intro h
    rcases no_zero_div hp (a := a ^ n) (b := a) (by grind) with h2 | h2
    · exact ih h2
    · exact ha h2
theorem flt1 [NeZero p] (hp : IsPr p) {a : Fin p} (ha : a ≠ 0) : a ^ (p - 1) = 1 := by
  apply mul_cancel hp ha
  have h1 : a ^ (p - 1 + 1) = a := by rw [Nat.sub_add_cancel (by have := hp.1; omega)]; exact flt hp a
  grind
/-- The inverse. -/
def inv [NeZero p] (a : Fin p) : Fin p := a ^ (p - 2)
theorem mul_inv [NeZero p] (hp : IsPr p) {a : Fin p} (ha : a ≠ 0) : a * inv a = 1 := by
  have h1 := flt1 hp ha
  have h2 : p - 1 = (p - 2) + 1 := by have := hp.1; omega
  rw [h2] at h1
  unfold inv
  grind
theorem inv_ne_zero [NeZero p] (hp : IsPr p) {a : Fin p} (ha : a ≠ 0) : inv a ≠ 0 := pow_ne_zero hp ha _
end
/-- The program's seven primes, 2^q - 1. -/
def Sup (p : Nat) : Prop := p = 31 ∨ p = 127 ∨ p = 8191 ∨ p = 131071 ∨ p = 524287 ∨ p = 2147483647 ∨ p = 2305843009213693951
theorem Sup.le {p : Nat} (h : Sup p) : 31 ≤ p ∧ p ≤ 2305843009213693951 := by unfold Sup at h; omega
theorem Sup.ne {p : Nat} (h : Sup p) : NeZero p := ⟨by have := h.le; omega⟩
section
end
end Go.Proofs.YtjpaichcaaacbaaDoorNum
end
section
namespace Go.Proofs.YtjpaichcaaacbaaDoorNum
theorem sumF_ext {p : Nat} [NeZero p] {m n : Nat} {f : Nat → Fin p} (hmn : m ≤ n) (h : ∀ i, m ≤ i → i < n → f i = 0) : sumF n f = sumF m f := by
  obtain ⟨d, rfl⟩ : ∃ d, n = m + d := ⟨n - m, by omega⟩
  clear hmn
  induction d with
  | zero => rfl
  | succ d ih =>
    have e : sumF (m + (d + 1)) f = sumF (m + d) f + f (m + d) := rfl
    rw [e, ih (fun i h1 h2 => h i h1 (by omega)), h (m + d) (by omega) (by omega)]
    grind
theorem sumF_mulr {p : Nat} [NeZero p] (n : Nat) (c : Fin p) (f : Nat → Fin p) : sumF n (fun i => f i * c) = sumF n f * c := by
  induction n with
  | zero => simp only [sumF]; grind
  | succ n ih => simp only [sumF]; rw [ih]; grind
theorem sumF_sub {p : Nat} [NeZero p] (n : Nat) (f g : Nat → Fin p) : sumF n (fun i => f i - g i) = sumF n f - sumF n g := by
  induction n with
  | zero => simp only [sumF]; grind
  | succ n ih => simp only [sumF]; rw [ih]; grind
theorem sumF_one {p : Nat} [NeZero p] {n j : Nat} {f : Nat → Fin p} (hj : j < n) (h : ∀ i, i < n → i ≠ j → f i = 0) : sumF n f = f j := by
  induction n with
  | zero => omega
  | succ n ih =>
    simp only [sumF]
    by_cases e : j = n
    · subst e
      rw [sumF_congr (g := fun _ => 0) (fun i hi => h i (by omega) (by omega)), sumF_zero]
      grind
    · rw [ih (by omega) (fun i hi hne => h i (by omega) hne), h n (by omega) (fun h => e h.symm)]
      grind
theorem sumF_comm {p : Nat} [NeZero p] (m n : Nat) (f : Nat → Nat → Fin p) : sumF m (fun i => sumF n (fun j => f i j)) = sumF n (fun j => sumF m (fun i => f i j)) := by
  induction m with
  | zero => simp only [sumF]; rw [sumF_zero]
  | succ m ih => simp only [sumF]; rw [ih, ← sumF_add]
def conv {p : Nat} [NeZero p] (f g : Nat → Fin p) (n : Nat) : Fin p := sumF (n + 1) (fun i => f i * g (n - i))
theorem conv_congr {p : Nat} [NeZero p] {f f' g g' : Nat → Fin p} {n : Nat} (hf : ∀ i, i ≤ n → f i = f' i) (hg : ∀ i, i ≤ n → g i = g' i) : conv f g n = conv f' g' n := by
  unfold conv
  exact sumF_congr (fun i hi => by rw [hf i (by omega), hg (n - i) (by omega)])
theorem conv_support {p : Nat} [NeZero p] {f g : Nat → Fin p} {m k : Nat} (hf : ∀ i, m ≤ i → f i = 0) (hg : ∀ i, k ≤ i → g i = 0) (n : Nat) (hn : m + k ≤ n + 1) : conv f g n = 0 := by
  unfold conv
  rw [sumF_congr (g := fun _ => 0) (fun i hi => ?_), sumF_zero]
  by_cases h : m ≤ i
  · rw [hf i h]; grind
  · rw [hg (n - i) (by omega)]; grind
theorem conv_top {p : Nat} [NeZero p] {f g : Nat → Fin p} {m k : Nat} (hf : ∀ i, m < i → f i = 0) (hg : ∀ i, k < i → g i = 0) : conv f g (m + k) = f m * g k := by
  unfold conv
  rw [sumF_one (j := m) (by omega) (fun i hi hne => ?_)]
  · have e : m + k - m = k := by omega
    rw [e]
  · by_cases h : m < i
    · rw [hf i h]; grind
    · rw [hg (m + k - i) (by omega)]; grind
def evF {p : Nat} [NeZero p] (n : Nat) (f : Nat → Fin p) (x : Fin p) : Fin p := sumF n (fun i => f i * x ^ i)
theorem evF_head {p : Nat} [NeZero p] (n : Nat) (f : Nat → Fin p) (x : Fin p) : evF (n + 1) f x = f 0 + x * evF n (fun i => f (i + 1)) x := by
  unfold evF
  rw [sumF_head, ← sumF_mul]
  have e : f 0 * x ^ 0 = f 0 := by grind
  rw [e]
  congr 1
  exact sumF_congr (fun i hi => by rw [pw_succ]; grind)
theorem evF_ext {p : Nat} [NeZero p] {m n : Nat} {f : Nat → Fin p} (x : Fin p) (hmn : m ≤ n) (h : ∀ i, m ≤ i → f i = 0) : evF n f x = evF m f x :=
  sumF_ext hmn (fun i h1 _ => by rw [h i h1]; grind)
theorem evF_add {p : Nat} [NeZero p] (n : Nat) (f g : Nat → Fin p) (x : Fin p) : evF n (fun i => f i + g i) x = evF n f x + evF n g x := by
  unfold evF
  rw [← sumF_add]
  exact sumF_congr (fun i hi => by grind)
theorem evF_smul {p : Nat} [NeZero p] (n : Nat) (c : Fin p) (f : Nat → Fin p) (x : Fin p) : evF n (fun i => c * f i) x = c * evF n f x := by
  unfold evF
  rw [← sumF_mul]
  exact sumF_congr (fun i hi => by grind)
theorem evF_congr {p : Nat} [NeZero p] {n : Nat} {f g : Nat → Fin p} (x : Fin p) (h : ∀ i, i < n → f i = g i) : evF n f x = evF n g x :=
  sumF_congr (fun i hi => by rw [h i hi])
def cf {p : Nat} [NeZero p] (l : List (Fin p)) (i : Nat) : Fin p := l.getD i 0
theorem cf_ge {p : Nat} [NeZero p] {l : List (Fin p)} {i : Nat} (h : l.length ≤ i) : cf l i = 0 := by
  unfold cf
  rw [List.getD_eq_getElem?_getD, List.getElem?_eq_none h]
  rfl
theorem cf_lt {p : Nat} [NeZero p] {l : List (Fin p)} {i : Nat} (h : i < l.length) : cf l i = l[i] := by
  unfold cf
  rw [List.getD_eq_getElem?_getD, List.getElem?_eq_getElem h]
  rfl
theorem cf_ext {p : Nat} [NeZero p] {l l' : List (Fin p)} (hl : l.length = l'.length) (h : ∀ i, cf l i = cf l' i) : l = l' := by
  apply List.ext_getElem hl
  intro i h1 h2
  rw [← cf_lt h1, ← cf_lt h2]
  exact h i
/-- No zero at the end. -/
def Tr {p : Nat} [NeZero p] (l : List (Fin p)) : Prop := l = [] ∨ cf l (l.length - 1) ≠ 0
theorem Tr.len {p : Nat} [NeZero p] {l l' : List (Fin p)} (h : Tr l) (e : ∀ i, cf l i = cf l' i) : l.length ≤ l'.length := by
  rcases h with h | h
  · subst h; exact Nat.zero_le _
  · rcases Nat.lt_or_ge l'.length l.length with h1 | h1
    · exact absurd ((e _).trans (cf_ge (by omega))) h
    · exact h1
theorem Tr.eq {p : Nat} [NeZero p] {l l' : List (Fin p)} (h : Tr l) (h' : Tr l') (e : ∀ i, cf l i = cf l' i) : l = l' :=
  cf_ext (Nat.le_antisymm (h.len e) (h'.len (fun i => (e i).symm))) e
/-- The list without its zeros at the end. -/
def ptrim {p : Nat} [NeZero p] : List (Fin p) → List (Fin p)
  | [] => []
  | a :: l => match ptrim l with
    | [] => if a = 0 then [] else [a]
    | b :: r => a :: b :: r
theorem cf_cons_succ {p : Nat} [NeZero p] (a : Fin p) (l : List (Fin p)) (i : Nat) : cf (a :: l) (i + 1) = cf l i := by simp [cf]
theorem cf_cons_zero {p : Nat} [NeZero p] (a : Fin p) (l : List (Fin p)) : cf (a :: l) 0 = a := by simp [cf]
theorem cf_nil {p : Nat} [NeZero p] (i : Nat) : cf ([] : List (Fin p)) i = 0 := by simp [cf]
theorem cf_ptrim {p : Nat} [NeZero p] (l : List (Fin p)) : ∀ i, cf (ptrim l) i = cf l i := by
  induction l with
  | nil => intro i; rfl
  | cons a l ih =>
    intro i
    unfold ptrim
    split
    · rename_i h
      rw [h] at ih
      cases i with
      | zero =>
        rw [cf_cons_zero]
        split
        · rename_i ha; rw [cf_nil, ha]
        · rw [cf_cons_zero]
      | succ i =>
        rw [cf_cons_succ, ← ih i, cf_nil]
        split
        · rw [cf_nil]
        · rw [cf_cons_succ, cf_nil]
    · rename_i b r h
      rw [h] at ih
      cases i with
      | zero => rw [cf_cons_zero, cf_cons_zero]
      | succ i => rw [cf_cons_succ, cf_cons_succ, ih i]
theorem tr_ptrim {p : Nat} [NeZero p] (l : List (Fin p)) : Tr (ptrim l) := by
  induction l with
  | nil => exact .inl rfl
  | cons a l ih =>
    unfold ptrim
    split
    · split
      · exact .inl rfl
      · rename_i ha
        right
        simpa [cf] using ha
    · rename_i b r h
      rw [h] at ih
      rcases ih with ih | ih
      · cases ih
      · right
        have e : (a :: b :: r).length - 1 = (b :: r).length - 1 + 1 := by simp
        rw [e, cf_cons_succ]
        exact ih
theorem ptrim_len {p : Nat} [NeZero p] (l : List (Fin p)) : (ptrim l).length ≤ l.length := (tr_ptrim l).len (cf_ptrim l)
/-- The polynomial of given coefficients. -/
def mkp {p : Nat} [NeZero p] (n : Nat) (f : Nat → Fin p) : List (Fin p) := ptrim ((List.range n).map f)
theorem cf_map_range {p : Nat} [NeZero p] (n : Nat) (f : Nat → Fin p) (i : Nat) : cf ((List.range n).map f) i = if i < n then f i else 0 := by
  unfold cf
  rw [List.getD_eq_getElem?_getD, List.getElem?_map]
  split
  · rename_i h
    rw [List.getElem?_eq_getElem (by simpa using h)]
    simp
  · rename_i h
    rw [List.getElem?_eq_none (by simpa using h)]
    rfl
theorem cf_mkp {p : Nat} [NeZero p] (n : Nat) (f : Nat → Fin p) (i : Nat) : cf (mkp n f) i = if i < n then f i else 0 := by
  unfold mkp
  rw [cf_ptrim, cf_map_range]
theorem cf_mkp_all {p : Nat} [NeZero p] {n : Nat} {f : Nat → Fin p} (h : ∀ i, n ≤ i → f i = 0) (i : Nat) : cf (mkp n f) i = f i := by
  rw [cf_mkp]
  split
  · rfl
  · rename_i h1
    exact (h i (by omega)).symm
theorem tr_mkp {p : Nat} [NeZero p] (n : Nat) (f : Nat → Fin p) : Tr (mkp n f) := tr_ptrim _
theorem mkp_len {p : Nat} [NeZero p] (n : Nat) (f : Nat → Fin p) : (mkp n f).length ≤ n := by
  have := ptrim_len ((List.range n).map f)
  simpa [mkp] using this
def padd {p : Nat} [NeZero p] (a b : List (Fin p)) : List (Fin p) := mkp (max a.length b.length) (fun i => cf a i + cf b i)
def pscale {p : Nat} [NeZero p] (k : Fin p) (a : List (Fin p)) : List (Fin p) := mkp a.length (fun i => k * cf a i)
def psub {p : Nat} [NeZero p] (a b : List (Fin p)) : List (Fin p) := padd a (pscale (-1) b)
def pmul {p : Nat} [NeZero p] (a b : List (Fin p)) : List (Fin p) := mkp (a.length + b.length) (conv (cf a) (cf b))
def peval {p : Nat} [NeZero p] (a : List (Fin p)) (x : Fin p) : Fin p := evF a.length (cf a) x
theorem cf_padd {p : Nat} [NeZero p] (a b : List (Fin p)) (i : Nat) : cf (padd a b) i = cf a i + cf b i :=
  cf_mkp_all (fun i hi => by rw [cf_ge (by omega), cf_ge (by omega)]; grind) i
theorem cf_pscale {p : Nat} [NeZero p] (k : Fin p) (a : List (Fin p)) (i : Nat) : cf (pscale k a) i = k * cf a i :=
  cf_mkp_all (fun i hi => by rw [cf_ge hi]; grind) i
theorem cf_psub {p : Nat} [NeZero p] (a b : List (Fin p)) (i : Nat) : cf (psub a b) i = cf a i - cf b i := by
  unfold psub
  rw [cf_padd, cf_pscale]
  grind
theorem cf_pmul {p : Nat} [NeZero p] (a b : List (Fin p)) (i : Nat) : cf (pmul a b) i = conv (cf a) (cf b) i :=
  cf_mkp_all (fun i hi => conv_support (m := a.length) (k := b.length) (fun j hj => cf_ge hj) (fun j hj => cf_ge hj) i (by omega)) i
theorem tr_psub {p : Nat} [NeZero p] (a b : List (Fin p)) : Tr (psub a b) := tr_mkp _ _
theorem tr_pmul {p : Nat} [NeZero p] (a b : List (Fin p)) : Tr (pmul a b) := tr_mkp _ _
theorem padd_len {p : Nat} [NeZero p] (a b : List (Fin p)) : (padd a b).length ≤ max a.length b.length := mkp_len _ _
theorem pscale_len {p : Nat} [NeZero p] (k : Fin p) (a : List (Fin p)) : (pscale k a).length ≤ a.length := mkp_len _ _
theorem psub_len {p : Nat} [NeZero p] (a b : List (Fin p)) : (psub a b).length ≤ max a.length b.length := by
  have h1 := padd_len a (pscale (-1) b)
  have h2 := pscale_len (-1) b
  unfold psub
  omega
theorem pmul_len {p : Nat} [NeZero p] (a b : List (Fin p)) : (pmul a b).length ≤ a.length + b.length - 1 := by
  rcases Nat.lt_or_ge (a.length + b.length - 1) (pmul a b).length with h | h
  · exfalso
    rcases tr_pmul a b with h1 | h1
    · rw [h1] at h; simp at h
    · apply h1
      rw [cf_pmul]
      exact conv_support (m := a.length) (k := b.length) (fun j hj => cf_ge hj) (fun j hj => cf_ge hj) _ (by omega)
  · exact h
/-- Degrees add up. -/
theorem pmul_length {p : Nat} [NeZero p] (hp : IsPr p) {a b : List (Fin p)} (ha : Tr a) (hb : Tr b) (ha0 : a ≠ []) (hb0 : b ≠ []) : (pmul a b).length = a.length + b.length - 1 := by
  have h1 := pmul_len a b
  have la : 0 < a.length := List.length_pos_iff.2 ha0
  have lb : 0 < b.length := List.length_pos_iff.2 hb0
  rcases Nat.lt_or_ge (pmul a b).length (a.length + b.length - 1) with h | h
  · exfalso
    have h2 : cf (pmul a b) (a.length - 1 + (b.length - 1)) = 0 := cf_ge (by omega)
    rw [cf_pmul, conv_top (fun i hi => cf_ge (by omega)) (fun i hi => cf_ge (by omega))] at h2
    rcases no_zero_div hp h2 with h3 | h3
    · exact (ha.resolve_left ha0) h3
    · exact (hb.resolve_left hb0) h3
  · omega
theorem peval_eq {p : Nat} [NeZero p] (a : List (Fin p)) (x : Fin p) {n : Nat} (h : a.length ≤ n) : evF n (cf a) x = peval a x := evF_ext x h (fun _ hi => cf_ge hi)
theorem peval_padd {p : Nat} [NeZero p] (a b : List (Fin p)) (x : Fin p) : peval (padd a b) x = peval a x + peval b x := by
  have hl := padd_len a b
  rw [← peval_eq (padd a b) x hl, evF_congr x (fun i _ => cf_padd a b i), evF_add, peval_eq a x (by omega), peval_eq b x (by omega)]
theorem peval_pscale {p : Nat} [NeZero p] (k : Fin p) (a : List (Fin p)) (x : Fin p) : peval (pscale k a) x = k * peval a x := by
  have hl := pscale_len k a
  rw [← peval_eq (pscale k a) x hl, evF_congr x (fun i _ => cf_pscale k a i), evF_smul]
  rfl
theorem peval_psub {p : Nat} [NeZero p] (a b : List (Fin p)) (x : Fin p) : peval (psub a b) x = peval a x - peval b x := by
  unfold psub
  rw [peval_padd, peval_pscale]
  grind
theorem peval_cons {p : Nat} [NeZero p] (c : Fin p) (l : List (Fin p)) (x : Fin p) : peval (c :: l) x = c + x * peval l x := by
  unfold peval
  rw [List.length_cons, evF_head, cf_cons_zero]
  congr 2
theorem peval_nil {p : Nat} [NeZero p] (x : Fin p) : peval ([] : List (Fin p)) x = 0 := rfl
/-- a = q b + r, and r is of smaller degree than b. -/
structure IsDiv {p : Nat} [NeZero p] (a b q r : List (Fin p)) : Prop where
  tq : Tr q
  tr : Tr r
  less : r.length < b.length
  eq : ∀ i, cf a i = conv (cf q) (cf b) i + cf r i
theorem conv_subl {p : Nat} [NeZero p] (f g h : Nat → Fin p) (n : Nat) : conv (fun i => f i - g i) h n = conv f h n - conv g h n := by
  unfold conv
  rw [← sumF_sub]
  exact sumF_congr (fun i hi => by grind)
theorem IsDiv.unique {p : Nat} [NeZero p] (hp : IsPr p) {a b q r q' r' : List (Fin p)} (hb : Tr b) (h : IsDiv a b q r) (h' : IsDiv a b q' r') : q = q' ∧ r = r' := by
  have hb0 : b ≠ [] := by
    rintro rfl
    have := h.less
    simp at this
  -- (q - q') b = r' - r
  have key : ∀ i, conv (cf (psub q q')) (cf b) i = cf (psub r' r) i := by
    intro i
    rw [conv_congr (fun j _ => cf_psub q q' j) (fun _ _ => rfl), conv_subl, cf_psub]
    have h1 := h.eq i
    have h2 := h'.eq i
    grind
  have hq : psub q q' = [] := by
    by_cases hne : psub q q' = []
    · exact hne
    · exfalso
      have h1 := pmul_length hp (tr_psub q q') hb hne hb0
      have h2 : pmul (psub q q') b = psub r' r := (tr_pmul _ _).eq (tr_psub _ _) (fun i => by rw [cf_pmul, key])
      have h3 := psub_len r' r
      rw [h2] at h1
      have h4 : 0 < (psub q q').length := List.length_pos_iff.2 hne
      have := h.less
      have := h'.less
      omega
  have hqq : q = q' := h.tq.eq h'.tq (fun i => by
    have := cf_psub q q' i
    rw [hq, cf_nil] at this
    grind)
  refine ⟨hqq, h.tr.eq h'.tr (fun i => ?_)⟩
  have h1 := h.eq i
  have h2 := h'.eq i
  rw [hqq] at h1
  grind
/-- Division by x - c. -/
def synth {p : Nat} [NeZero p] (c : Fin p) : List (Fin p) → List (Fin p)
  | [] => []
  | _ :: l => peval l c :: synth c l
theorem synth_len {p : Nat} [NeZero p] (c : Fin p) (l : List (Fin p)) : (synth c l).length = l.length := by
  induction l with
  | nil => rfl
  | cons a l ih => simp [synth, ih]
theorem synth_eval {p : Nat} [NeZero p] (c : Fin p) (l : List (Fin p)) (x : Fin p) : peval l x = (x - c) * peval (synth c l) x + peval l c := by
  induction l with
  | nil => simp only [synth, peval_nil]; grind
  | cons a l ih =>
    simp only [synth]
    rw [peval_cons, peval_cons, peval_cons, ih]
    grind
theorem synth_last {p : Nat} [NeZero p] (c : Fin p) (l : List (Fin p)) : cf (synth c l) (l.length - 1) = 0 := by
  induction l with
  | nil => rfl
  | cons a l ih =>
    simp only [synth]
    cases l with
    | nil => simp [cf, synth, peval_nil]
    | cons b l =>
      have e : (a :: b :: l).length - 1 = (b :: l).length - 1 + 1 := by simp
      rw [e, cf_cons_succ]
      exact ih
theorem peval_take {p : Nat} [NeZero p] {l : List (Fin p)} (h : cf l (l.length - 1) = 0) (x : Fin p) : peval (l.take (l.length - 1)) x = peval l x := by
  unfold peval
  have e : evF l.length (cf l) x = evF (l.length - 1) (cf l) x := by
    rcases Nat.eq_zero_or_pos l.length with h0 | h0
    · rw [h0]
    · exact sumF_ext (by omega) (fun i h1 h2 => by
        have : i = l.length - 1 := by omega
        rw [this, h]
        grind)
  rw [e, List.length_take, Nat.min_eq_left (by omega)]
  refine evF_congr x (fun i hi => ?_)
  rw [cf_lt (by rw [List.length_take]; omega), cf_lt (by omega), List.getElem_take]
/-- All coefficients zero, or fewer zeros than coefficients. -/
theorem zeros_lt {p : Nat} [NeZero p] (hp : IsPr p) : ∀ (n : Nat) (l : List (Fin p)), l.length = n → ∀ xs : List (Fin p), xs.Nodup → (∀ x ∈ xs, peval l x = 0) → n ≤ xs.length → ∀ x, peval l x = 0 := by
  intro n
  induction n with
  | zero =>
    intro l hl xs _ _ _ x
    rw [List.length_eq_zero_iff.1 hl]
    rfl
  | succ n ih =>
    intro l hl xs hnd hz hlen x
    match xs, hnd, hz, hlen with
    | c :: xs, hnd, hz, hlen =>
      have hc := hz c List.mem_cons_self
      have hs : ∀ y, peval l y = (y - c) * peval ((synth c l).take n) y := by
        intro y
        rw [synth_eval c l y, hc]
        have e : n = (synth c l).length - 1 := by rw [synth_len]; omega
        have h1 : cf (synth c l) ((synth c l).length - 1) = 0 := by rw [synth_len]; exact synth_last c l
        have h2 := peval_take h1 y
        rw [← e] at h2
        rw [h2]
        grind
      have hz2 : ∀ y ∈ xs, peval ((synth c l).take n) y = 0 := by
        intro y hy
        have h1 := hz y (List.mem_cons_of_mem _ hy)
        rw [hs y] at h1
        rcases no_zero_div hp h1 with h2 | h2
        · exfalso
          have : y = c := by grind
          subst this
          exact (List.nodup_cons.1 hnd).1 hy
        · exact h2
      have h3 := ih ((synth c l).take n) (by rw [List.length_take, synth_len]; omega) xs (List.nodup_cons.1 hnd).2 hz2 (by simp at hlen; omega) x
      rw [hs x, h3]
      grind
/-- A polynomial that is zero at as many points as it has coefficients is zero. -/
theorem zero_of_values {p : Nat} [NeZero p] (hp : IsPr p) : ∀ (n : Nat) (l : List (Fin p)), l.length = n → ∀ xs : List (Fin p), xs.Nodup → (∀ x ∈ xs, peval l x = 0) → n ≤ xs.length → ∀ i, cf l i = 0 := by
  intro n
  induction n with
  | zero =>
    intro l hl xs _ _ _ i
    rw [List.length_eq_zero_iff.1 hl, cf_nil]
  | succ n ih =>
    intro l hl xs hnd hz hlen i
    match l, hl with
    | a :: l, hl =>
      have hall := zeros_lt hp (n + 1) (a :: l) hl xs hnd hz hlen
      have ha : a = 0 := by
        have := hall 0
        rw [peval_cons] at this
        grind
      -- the rest is zero at every point but 0 perhaps: at all points of xs without 0, and there are enough, or xs holds 0
      have hl' : l.length = n := by simpa using hl
      have hz2 : ∀ x, x ≠ 0 → peval l x = 0 := by
        intro x hx
        have h1 := hall x
        rw [peval_cons, ha] at h1
        rcases no_zero_div hp (a := x) (b := peval l x) (by grind) with h2 | h2
        · exact absurd h2 hx
        · exact h2
      have hnd2 : (xs.filter (fun x => x != 0)).Nodup := hnd.filter _
      have hcount : n ≤ (xs.filter (fun x => x != 0)).length := by
        have key : ∀ ys : List (Fin p), ys.Nodup → ys.length ≤ (ys.filter (fun x => x != 0)).length + 1 := by
          intro ys
          induction ys with
          | nil => intro _; simp
          | cons y ys ihy =>
            intro h
            obtain ⟨h1, h2⟩ := List.nodup_cons.1 h
            by_cases hy : y = 0
            · have : ys.filter (fun x => x != 0) = ys := List.filter_eq_self.2 (fun z hz => by
                have : z ≠ 0 := by rintro rfl; exact h1 (hy ▸ hz)
                simpa using this)
              rw [List.filter_cons_of_neg (by simp [hy]), this]
              simp
            · rw [List.filter_cons_of_pos (by simpa using hy)]
              have := ihy h2
              simp only [List.length_cons]
              omega
        have := key xs hnd
        omega
      have h3 := ih l hl' _ hnd2 (fun x hx => hz2 x (by simpa using (List.mem_filter.1 hx).2)) hcount
      cases i with
      | zero => rw [cf_cons_zero]; exact ha
      | succ i => rw [cf_cons_succ]; exact h3 i
/-- Two polynomials with the same values at enough points are the same. -/
theorem eq_of_values {p : Nat} [NeZero p] (hp : IsPr p) {a b : List (Fin p)} {n : Nat} (ha : a.length ≤ n) (hb : b.length ≤ n) {xs : List (Fin p)} (hnd : xs.Nodup) (hn : n ≤ xs.length) (h : ∀ x ∈ xs, peval a x = peval b x) : ∀ i, cf a i = cf b i := by
  intro i
  have hl := psub_len a b
  have h1 := zero_of_values hp _ (psub a b) rfl xs hnd (fun x hx => by rw [peval_psub, h x hx]; grind) (by omega) i
  rw [cf_psub] at h1
  grind
end Go.Proofs.YtjpaichcaaacbaaDoorNum
end
section
namespace Go.Proofs.YtjpaichcaaacbaaDoorNum
section
variable {p : Nat}
def mulX [NeZero p] (n : Nat) (a b : Nat → Nat → Fin p) : Nat → Nat → Fin p := fun i j => sumF n (fun k => a i k * b k j)
def idX [NeZero p] : Nat → Nat → Fin p := fun i j => if i = j then 1 else 0
theorem mulX_congr [NeZero p] {n : Nat} {a a' b b' : Nat → Nat → Fin p} {i j : Nat} (ha : ∀ k, k < n → a i k = a' i k) (hb : ∀ k, k < n → b k j = b' k j) : mulX n a b i j = mulX n a' b' i j :=
  sumF_congr (fun k hk => by rw [ha k hk, hb k hk])
theorem mulX_assoc [NeZero p] (m n : Nat) (a b c : Nat → Nat → Fin p) (i j : Nat) : mulX n (mulX m a b) c i j = mulX m a (mulX n b c) i j := by
  unfold mulX
  have e1 : sumF n (fun k => sumF m (fun l => a i l * b l k) * c k j) = sumF n (fun k => sumF m (fun l => a i l * b l k * c k j)) :=
    sumF_congr (fun k _ => (sumF_mulr m (c k j) (fun l => a i l * b l k)).symm)
  have e2 : sumF m (fun l => a i l * sumF n (fun k => b l k * c k j)) = sumF m (fun l => sumF n (fun k => a i l * (b l k * c k j))) :=
    sumF_congr (fun l _ => (sumF_mul n (a i l) (fun k => b l k * c k j)).symm)
  rw [e1, e2, sumF_comm]
  exact sumF_congr (fun l _ => sumF_congr (fun k _ => by grind))
theorem mulX_id [NeZero p] (n : Nat) (a : Nat → Nat → Fin p) {i j : Nat} (hj : j < n) : mulX n a idX i j = a i j := by
  unfold mulX idX
  rw [sumF_one (j := j) hj (fun k _ hk => by rw [if_neg hk]; grind), if_pos rfl]
  grind
theorem id_mulX [NeZero p] (n : Nat) (a : Nat → Nat → Fin p) {i j : Nat} (hi : i < n) : mulX n idX a i j = a i j := by
  unfold mulX idX
  rw [sumF_one (j := i) hi (fun k _ hk => by rw [if_neg (fun h => hk h.symm)]; grind), if_pos rfl]
  grind
def swapR [NeZero p] (r s : Nat) (a : Nat → Nat → Fin p) : Nat → Nat → Fin p := fun i j => if i = r then a s j else if i = s then a r j else a i j
def scaleR [NeZero p] (r : Nat) (c : Fin p) (a : Nat → Nat → Fin p) : Nat → Nat → Fin p := fun i j => if i = r then c * a i j else a i j
def addR [NeZero p] (r s : Nat) (c : Fin p) (a : Nat → Nat → Fin p) : Nat → Nat → Fin p := fun i j => if i = r then a i j + c * a s j else a i j
end
end Go.Proofs.YtjpaichcaaacbaaDoorNum
end
section
namespace Go.Proofs.YtjpaichcaaacbaaDoorNum
section
variable {p : Nat}
inductive Ops [NeZero p] (n : Nat) : Fin p → (Nat → Nat → Fin p) → (Nat → Nat → Fin p) → Prop
  | refl (a : Nat → Nat → Fin p) : Ops n 1 a a
  | swap {c : Fin p} {a b : Nat → Nat → Fin p} (h : Ops n c a b) (r s : Nat) (hr : r < n) (hs : s < n) (hrs : r ≠ s) : Ops n (-c) a (swapR r s b)
  | scale {c : Fin p} {a b : Nat → Nat → Fin p} (h : Ops n c a b) (r : Nat) (k : Fin p) (hr : r < n) (hk : k ≠ 0) : Ops n (k * c) a (scaleR r k b)
  | add {c : Fin p} {a b : Nat → Nat → Fin p} (h : Ops n c a b) (r s : Nat) (k : Fin p) (hr : r < n) (hs : s < n) (hrs : r ≠ s) : Ops n c a (addR r s k b)
  | congr {c : Fin p} {a b b' : Nat → Nat → Fin p} (h : Ops n c a b) (he : ∀ i j, i < n → b i j = b' i j) : Ops n c a b'
theorem Ops.trans [NeZero p] {n : Nat} {c d : Fin p} {a b e : Nat → Nat → Fin p} (h : Ops n c a b) (k : Ops n d b e) : Ops n (d * c) a e := by
  induction k with
  | refl a => exact (by have : (1 : Fin p) * c = c := by grind
                        rw [this]; exact h)
  | swap k r s hr hs hrs ih =>
    have := (ih h).swap r s hr hs hrs
    rename_i d' _ _
    have e1 : -d' * c = -(d' * c) := by grind
    rw [e1]; exact this
  | scale k r q hr hq ih =>
    have := (ih h).scale r q hr hq
    rename_i d' _ _
    have e1 : q * d' * c = q * (d' * c) := by grind
    rw [e1]; exact this
  | add k r s q hr hs hrs ih => exact (ih h).add r s q hr hs hrs
  | congr k he ih => exact (ih h).congr he
theorem Ops.sym [NeZero p] (hp : IsPr p) {n : Nat} {c : Fin p} {a b : Nat → Nat → Fin p} (h : Ops n c a b) : ∃ d, Ops n d b a := by
  induction h with
  | refl a => exact ⟨1, .refl a⟩
  | swap h r s hr hs hrs ih =>
    obtain ⟨d, ih⟩ := ih
    refine ⟨_, Ops.trans (((Ops.refl _).swap r s hr hs hrs).congr (fun i j _ => ?_)) ih⟩
    unfold swapR
    by_cases h1 : i = r
    · subst h1
      by_cases h2 : s = i
      · exact absurd h2.symm hrs
      · simp only [if_true, h2, if_false]
    · by_cases h2 : i = s
      · subst h2; simp only [h1, if_true, if_false]
      · simp only [h1, h2, if_false]
  | scale h r k hr hk ih =>
    obtain ⟨d, ih⟩ := ih
    have hi := mul_inv hp hk
    refine ⟨_, Ops.trans (((Ops.refl _).scale r (inv k) hr (inv_ne_zero hp hk)).congr (fun i j _ => ?_)) ih⟩
    unfold scaleR
    split
    · grind
    · rfl
  | add h r s k hr hs hrs ih =>
    obtain ⟨d, ih⟩ := ih
    refine ⟨_, Ops.trans (((Ops.refl _).add r s (-k) hr hs hrs).congr (fun i j _ => ?_)) ih⟩
    unfold addR
    have h2 : s ≠ r := fun h => hrs h.symm
    by_cases h1 : i = r
    · simp only [h1, h2, if_true, if_false]
      grind
    · simp only [h1, if_false]
  | congr h he ih =>
    obtain ⟨d, ih⟩ := ih
    refine ⟨_, Ops.trans ((Ops.refl _).congr (fun i j hi => (he i j hi).symm)) ih⟩
theorem Ops.mul [NeZero p] {n : Nat} {c : Fin p} {a b : Nat → Nat → Fin p} (h : Ops n c a b) (m : Nat) (x : Nat → Nat → Fin p) : Ops n c (mulX m a x) (mulX m b x) := by
  induction h with
  | refl a => exact .refl _
  | swap h r s hr hs hrs ih =>
    refine (ih.swap r s hr hs hrs).congr (fun i j _ => ?_)
    unfold swapR mulX
    by_cases h1 : i = r
    · simp only [h1, if_true]
    · by_cases h2 : i = s
      · have h3 : ¬ s = r := fun h => hrs h.symm
        simp only [h2, h3, if_true, if_false]
      · simp only [h1, h2, if_false]
  | scale h r k hr hk ih =>
    refine (ih.scale r k hr hk).congr (fun i j _ => ?_)
    unfold scaleR mulX
    by_cases h1 : i = r
    · simp only [h1, if_true]
      rw [← sumF_mul]
      exact sumF_congr (fun l _ => by grind)
    · simp only [h1, if_false]
  | add h r s k hr hs hrs ih =>
    refine (ih.add r s k hr hs hrs).congr (fun i j _ => ?_)
    unfold addR mulX
    by_cases h1 : i = r
    · simp only [h1, if_true]
      rw [← sumF_mul, ← sumF_add]
      exact sumF_congr (fun l _ => by grind)
    · simp only [h1, if_false]
  | congr h he ih => exact ih.congr (fun i j hi => sumF_congr (fun l _ => by rw [he i l hi]))
/-- What row operations do is a product with a matrix from the left. -/
theorem Ops.left [NeZero p] {n : Nat} {c : Fin p} {a b : Nat → Nat → Fin p} (h : Ops n c a b) : ∃ q, Ops n c idX q ∧ ∀ i j, i < n → b i j = mulX n q a i j := by
  have key : ∀ {c : Fin p} {a b : Nat → Nat → Fin p}, Ops n c a b → ∃ q, Ops n c idX q ∧ ∀ i j, i < n → b i j = mulX n q a i j := by
    intro c a b h
    induction h with
    | refl a => exact ⟨idX, .refl _, fun i j hi => (id_mulX n a hi).symm⟩
    | swap h r s hr hs hrs ih =>
      obtain ⟨q, hq, e⟩ := ih
      refine ⟨_, hq.swap r s hr hs hrs, fun i j hi => ?_⟩
      unfold swapR
      split
      · rename_i h1
        rw [e s j hs]
        exact sumF_congr (fun l _ => by dsimp only; rw [if_pos h1])
      · split
        · rename_i h1 h2
          rw [e r j hr]
          exact sumF_congr (fun l _ => by dsimp only; rw [if_neg h1, if_pos h2])
        · rename_i h1 h2
          rw [e i j hi]
          exact sumF_congr (fun l _ => by dsimp only; rw [if_neg h1, if_neg h2])
    | scale h r k hr hk ih =>
      obtain ⟨q, hq, e⟩ := ih
      refine ⟨_, hq.scale r k hr hk, fun i j hi => ?_⟩
      unfold scaleR
      split
      · rename_i h1
        rw [e i j hi]
        unfold mulX
        rw [← sumF_mul]
        exact sumF_congr (fun l _ => by dsimp only; rw [if_pos h1]; grind)
      · rename_i h1
        rw [e i j hi]
        exact sumF_congr (fun l _ => by dsimp only; rw [if_neg h1])
    | add h r s k hr hs hrs ih =>
      obtain ⟨q, hq, e⟩ := ih
      refine ⟨_, hq.add r s k hr hs hrs, fun i j hi => ?_⟩
      unfold addR
      split
      · rename_i h1
        rw [e i j hi, e s j hs]
        unfold mulX
        rw [← sumF_mul, ← sumF_add]
        exact sumF_congr (fun l _ => by dsimp only; rw [if_pos h1]; grind)
      · rename_i h1
        rw [e i j hi]
        exact sumF_congr (fun l _ => by dsimp only; rw [if_neg h1])
    | congr h he ih =>
      obtain ⟨q, hq, e⟩ := ih
      exact ⟨q, hq, fun i j hi => (he i j hi).symm.trans (e i j hi)⟩
  exact key h
/-- .. that has an inverse from both sides. -/
theorem Ops.inverse [NeZero p] (hp : IsPr p) {n : Nat} {c : Fin p} {a b : Nat → Nat → Fin p} (h : Ops n c a b) :
    ∃ q r, (∀ i j, i < n → b i j = mulX n q a i j) ∧ (∀ i j, i < n → j < n → mulX n r q i j = idX i j) ∧ (∀ i j, i < n → j < n → mulX n q r i j = idX i j) := by
  obtain ⟨q, hq, e⟩ := h.left
  obtain ⟨d, hs⟩ := hq.sym hp
  obtain ⟨r, hr, er⟩ := hs.left
  obtain ⟨d2, hs2⟩ := hr.sym hp
  obtain ⟨s, _, es⟩ := hs2.left
  have rq : ∀ i j, i < n → j < n → mulX n r q i j = idX i j := fun i j hi _ => (er i j hi).symm
  refine ⟨q, r, e, rq, fun i j hi hj => ?_⟩
  -- s r = 1, r q = 1: s = q
  have hsq : ∀ i j, i < n → j < n → s i j = q i j := by
    intro i j hi hj
    have h1 : mulX n (mulX n s r) q i j = mulX n s (mulX n r q) i j := mulX_assoc n n s r q i j
    have h2 : mulX n (mulX n s r) q i j = q i j := by
      rw [mulX_congr (a' := idX) (b' := q) (fun k _ => (es i k hi).symm) (fun _ _ => rfl)]
      exact id_mulX n q hi
    have h3 : mulX n s (mulX n r q) i j = s i j := by
      rw [mulX_congr (a' := s) (b' := idX) (fun _ _ => rfl) (fun k hk => rq k j hk hj)]
      exact mulX_id n s hj
    rw [← h2, h1, h3]
  rw [mulX_congr (a' := s) (b' := r) (fun k hk => (hsq i k hi hk).symm) (fun _ _ => rfl)]
  exact (es i j hi).symm
/-- Row r divided by its entry in column k; its multiples taken from all other rows. -/
def clearX [NeZero p] (r k : Nat) (a : Nat → Nat → Fin p) : Nat → Nat → Fin p :=
  fun i j => if i = r then a r j * inv (a r k) else a i j - a i k * (a r j * inv (a r k))
theorem Ops.clear [NeZero p] (hp : IsPr p) {n : Nat} {c : Fin p} {a b : Nat → Nat → Fin p} (h : Ops n c a b) {r k : Nat} (hr : r < n) (hk : b r k ≠ 0) : Ops n (inv (b r k) * c) a (clearX r k b) := by
  have h1 := h.scale r (inv (b r k)) hr (inv_ne_zero hp hk)
  -- the rows below m are cleared
  have key : ∀ m, m ≤ n → Ops n (inv (b r k) * c) a (fun i j => if i = r then b r j * inv (b r k) else if i < m then b i j - b i k * (b r j * inv (b r k)) else b i j) := by
    intro m
    induction m with
    | zero =>
      intro _
      refine h1.congr (fun i j _ => ?_)
      unfold scaleR
      have : ¬ (i < 0) := by omega
      simp only [this, if_false]
      split
      · rename_i hi; rw [hi]; grind
      · rfl
    | succ m ih =>
      intro hm
      by_cases hmr : m = r
      · refine (ih (by omega)).congr (fun i j _ => ?_)
        by_cases hi : i = r
        · simp only [hi, if_true]
        · simp only [hi, if_false]
          by_cases h2 : i < m
          · rw [if_pos h2, if_pos (by omega)]
          · rw [if_neg h2, if_neg (by omega)]
      · refine ((ih (by omega)).add m r (- b m k) (by omega) hr hmr).congr (fun i j _ => ?_)
        unfold addR
        by_cases hi : i = m
        · subst hi
          have h3 : ¬ (i < i) := by omega
          have h4 : i < i + 1 := by omega
          simp only [hmr, h3, h4, if_true, if_false]
          grind
        · by_cases hi2 : i = r
          · simp only [hi2, if_true]
            rw [hi2] at hi
            simp only [hi, if_false]
          · simp only [hi, hi2, if_false]
            by_cases h2 : i < m
            · rw [if_pos h2, if_pos (by omega)]
            · rw [if_neg h2, if_neg (by omega)]
  refine (key n (Nat.le_refl n)).congr (fun i j hi => ?_)
  unfold clearX
  by_cases h2 : i = r
  · simp only [h2, if_true]
  · simp only [h2, if_false, hi, if_true]
def rowL [NeZero p] (w : List (List (Fin p))) (i : Nat) : List (Fin p) := w.getD i []
def en [NeZero p] (w : List (List (Fin p))) (i j : Nat) : Fin p := cf (rowL w i) j
/-- The first row from r on with a nonzero entry in column k. -/
def findP [NeZero p] (w : List (List (Fin p))) (k : Nat) : Nat → Nat → Option Nat
  | 0, _ => none
  | f + 1, i => if en w i k ≠ 0 then some i else findP w k f (i + 1)
def swapL [NeZero p] (i r : Nat) (w : List (List (Fin p))) : List (List (Fin p)) := (w.set i (rowL w r)).set r (rowL w i)
def clearL [NeZero p] (r k : Nat) (w : List (List (Fin p))) : List (List (Fin p)) :=
  (List.range w.length).map fun i => (List.range (rowL w i).length).map fun j => clearX r k (en w) i j
def stepL [NeZero p] (k : Nat) (s : List (List (Fin p)) × List Nat × Fin p) : List (List (Fin p)) × List Nat × Fin p :=
  match findP s.1 k (s.1.length - s.2.1.length) s.2.1.length with
  | none => s
  | some i =>
    let r := s.2.1.length
    let w1 := if i = r then s.1 else swapL i r s.1
    let d1 := if i = r then s.2.2 else - s.2.2
    (clearL r k w1, s.2.1 ++ [k], d1 * en w1 r k)
theorem findP_some [NeZero p] {w : List (List (Fin p))} {k : Nat} : ∀ {f i j : Nat}, findP w k f i = some j → i ≤ j ∧ j < i + f ∧ en w j k ≠ 0 ∧ ∀ l, i ≤ l → l < j → en w l k = 0 := by
  intro f
  induction f with
  | zero => intro i j h; cases h
  | succ f ih =>
    intro i j h
    unfold findP at h
    split at h
    · rename_i h1
      have : i = j := by simpa using h
      subst this
      exact ⟨Nat.le_refl _, by omega, h1, fun l h2 h3 => by omega⟩
    · rename_i h1
      obtain ⟨h2, h3, h4, h5⟩ := ih h
      refine ⟨by omega, by omega, h4, fun l h6 h7 => ?_⟩
      by_cases h8 : l = i
      · subst h8; exact Classical.not_not.1 h1
      · exact h5 l (by omega) h7
theorem findP_none [NeZero p] {w : List (List (Fin p))} {k : Nat} : ∀ {f i : Nat}, findP w k f i = none → ∀ l, i ≤ l → l < i + f → en w l k = 0 := by
  intro f
  induction f with
  | zero => intro i _ l h1 h2; omega
  | succ f ih =>
    intro i h l h1 h2
    unfold findP at h
    split at h
    · cases h
    · rename_i h3
      by_cases h4 : l = i
      · subst h4; exact Classical.not_not.1 h3
      · exact ih h l (by omega) (by omega)
theorem rowL_lt [NeZero p] {w : List (List (Fin p))} {i : Nat} (h : i < w.length) : rowL w i = w[i] := by
  unfold rowL
  rw [List.getD_eq_getElem?_getD, List.getElem?_eq_getElem h]
  rfl
theorem rowL_set [NeZero p] {w : List (List (Fin p))} {i k : Nat} {r : List (Fin p)} (h : i < w.length) : rowL (w.set i r) k = if k = i then r else rowL w k := by
  unfold rowL
  rw [List.getD_eq_getElem?_getD, List.getD_eq_getElem?_getD, List.getElem?_set]
  split
  · rename_i h1
    subst h1
    simp
  · rename_i h1
    rw [if_neg (fun h => h1 h.symm)]
theorem swapL_length [NeZero p] (i r : Nat) (w : List (List (Fin p))) : (swapL i r w).length = w.length := by simp [swapL]
theorem rowL_swapL [NeZero p] {w : List (List (Fin p))} {i r k : Nat} (hi : i < w.length) (hr : r < w.length) : rowL (swapL i r w) k = if k = r then rowL w i else if k = i then rowL w r else rowL w k := by
  unfold swapL
  rw [rowL_set (by simpa using hr), rowL_set hi]
theorem en_swapL [NeZero p] {w : List (List (Fin p))} {i r : Nat} (hi : i < w.length) (hr : r < w.length) (hir : i ≠ r) (a b : Nat) : en (swapL i r w) a b = swapR i r (en w) a b := by
  unfold en
  rw [rowL_swapL hi hr]
  unfold swapR
  by_cases h1 : a = r
  · subst h1
    rw [if_pos rfl, if_neg (fun h => hir h.symm), if_pos rfl]
  · rw [if_neg h1]
    by_cases h2 : a = i
    · rw [if_pos h2, if_pos h2]
    · rw [if_neg h2, if_neg h2, if_neg h1]
/-- All rows are of length c. -/
def Rect [NeZero p] (c : Nat) (w : List (List (Fin p))) : Prop := ∀ r ∈ w, r.length = c
theorem Rect.row [NeZero p] {c : Nat} {w : List (List (Fin p))} (h : Rect c w) {i : Nat} (hi : i < w.length) : (rowL w i).length = c := by
  rw [rowL_lt hi]
  exact h _ (List.getElem_mem hi)
theorem Rect.of [NeZero p] {c : Nat} {w : List (List (Fin p))} (h : ∀ i, i < w.length → (rowL w i).length = c) : Rect c w := by
  intro r hr
  obtain ⟨i, hi, rfl⟩ := List.getElem_of_mem hr
  rw [← rowL_lt hi]
  exact h i hi
theorem Rect.swap [NeZero p] {c : Nat} {w : List (List (Fin p))} (h : Rect c w) {i r : Nat} (hi : i < w.length) (hr : r < w.length) : Rect c (swapL i r w) := by
  refine Rect.of (fun k hk => ?_)
  rw [swapL_length] at hk
  rw [rowL_swapL hi hr]
  split
  · exact h.row hi
  · split
    · exact h.row hr
    · exact h.row hk
theorem clearL_length [NeZero p] (r k : Nat) (w : List (List (Fin p))) : (clearL r k w).length = w.length := by simp [clearL]
theorem rowL_clearL [NeZero p] {w : List (List (Fin p))} {r k i : Nat} (hi : i < w.length) : rowL (clearL r k w) i = (List.range (rowL w i).length).map fun j => clearX r k (en w) i j := by
  rw [rowL_lt (by rw [clearL_length]; exact hi)]
  simp [clearL]
theorem Rect.clear [NeZero p] {c : Nat} {w : List (List (Fin p))} (h : Rect c w) (r k : Nat) : Rect c (clearL r k w) := by
  refine Rect.of (fun i hi => ?_)
  rw [clearL_length] at hi
  rw [rowL_clearL hi, List.length_map, List.length_range]
  exact h.row hi
theorem en_ge [NeZero p] {c : Nat} {w : List (List (Fin p))} (h : Rect c w) (i j : Nat) (hj : c ≤ j) : en w i j = 0 := by
  unfold en
  by_cases hi : i < w.length
  · exact cf_ge (by rw [h.row hi]; exact hj)
  · unfold rowL
    rw [List.getD_eq_getElem?_getD, List.getElem?_eq_none (by omega)]
    exact cf_nil j
theorem en_clearL [NeZero p] {c : Nat} {w : List (List (Fin p))} (h : Rect c w) {r k i : Nat} (hi : i < w.length) (j : Nat) : en (clearL r k w) i j = clearX r k (en w) i j := by
  unfold en
  rw [rowL_clearL hi, cf_map_range, h.row hi]
  split
  · rfl
  · rename_i hj
    show (0 : Fin p) = clearX r k (en w) i j
    unfold clearX
    rw [en_ge h r j (by omega), en_ge h i j (by omega)]
    split <;> grind
/-- What holds after the first k columns. -/
structure GJ [NeZero p] (n c k : Nat) (m : Nat → Nat → Fin p) (w : List (List (Fin p))) (pv : List Nat) (d : Fin p) : Prop where
  len : w.length = n
  rect : Rect c w
  ops : ∃ f, Ops n f m (en w) ∧ f * d = 1
  few : pv.length ≤ n
  lt : ∀ t, t < pv.length → pv.getD t 0 < k
  mono : ∀ t u, t < u → u < pv.length → pv.getD t 0 < pv.getD u 0
  unit : ∀ t i, t < pv.length → i < n → en w i (pv.getD t 0) = if i = t then 1 else 0
  zero : ∀ i j, pv.length ≤ i → i < n → j < k → en w i j = 0
theorem getD_snoc_lt {l : List Nat} {k t : Nat} (h : t < l.length) : (l ++ [k]).getD t 0 = l.getD t 0 := by
  rw [List.getD_eq_getElem?_getD, List.getD_eq_getElem?_getD, List.getElem?_append_left h]
theorem getD_snoc_eq (l : List Nat) (k : Nat) : (l ++ [k]).getD l.length 0 = k := by
  rw [List.getD_eq_getElem?_getD, List.getElem?_append_right (Nat.le_refl _)]
  simp
theorem GJ.step [NeZero p] (hp : IsPr p) {n c k : Nat} {m : Nat → Nat → Fin p} {w : List (List (Fin p))} {pv : List Nat} {d : Fin p} (h : GJ n c k m w pv d) :
    GJ n c (k + 1) m (stepL k (w, pv, d)).1 (stepL k (w, pv, d)).2.1 (stepL k (w, pv, d)).2.2 := by
  unfold stepL
  dsimp only
  split
  · rename_i hf
    show GJ n c (k + 1) m w pv d
    rw [h.len] at hf
    have hz := findP_none hf
    refine ⟨h.len, h.rect, h.ops, h.few, fun t ht => by have := h.lt t ht; omega, h.mono, h.unit, fun i j h1 h2 h3 => ?_⟩
    by_cases hj : j = k
    · subst hj
      exact hz i h1 (by omega)
    · exact h.zero i j h1 h2 (by omega)
  · rename_i i hf
    rw [h.len] at hf
    obtain ⟨h1, h2, h3, _⟩ := findP_some hf
    have hr : pv.length < n := by omega
    have hi : i < n := by omega
    -- behind the exchange
    obtain ⟨w1, hw1⟩ : ∃ w1, (if i = pv.length then w else swapL i pv.length w) = w1 := ⟨_, rfl⟩
    obtain ⟨d1, hd1⟩ : ∃ d1, (if i = pv.length then d else -d) = d1 := ⟨_, rfl⟩
    rw [hw1, hd1]
    obtain ⟨f, hops, hfd⟩ := h.ops
    have hlen1 : w1.length = n := by
      rw [← hw1]
      split
      · exact h.len
      · rw [swapL_length]; exact h.len
    have hrect1 : Rect c w1 := by
      rw [← hw1]
      split
      · exact h.rect
      · exact h.rect.swap (by rw [h.len]; exact hi) (by rw [h.len]; exact hr)
    have hen1 : ∀ a b, en w1 a b = if i = pv.length then en w a b else swapR i pv.length (en w) a b := by
      intro a b
      rw [← hw1]
      split
      · rfl
      · rename_i hne
        exact en_swapL (by rw [h.len]; exact hi) (by rw [h.len]; exact hr) hne a b
    have hops1 : ∃ f1, Ops n f1 m (en w1) ∧ f1 * d1 = 1 := by
      rw [← hd1]
      by_cases hne : i = pv.length
      · refine ⟨f, hops.congr (fun a b _ => ?_), by rw [if_pos hne]; exact hfd⟩
        rw [hen1, if_pos hne]
      · refine ⟨-f, (hops.swap i pv.length hi hr hne).congr (fun a b _ => ?_), by rw [if_neg hne]; grind⟩
        rw [hen1, if_neg hne]
    have hpiv : en w1 pv.length k ≠ 0 := by
      rw [hen1]
      by_cases hne : i = pv.length
      · rw [if_pos hne, ← hne]; exact h3
      · rw [if_neg hne]
        unfold swapR
        rw [if_neg (fun h => hne h.symm), if_pos rfl]
        exact h3
    have hunit1 : ∀ t a, t < pv.length → a < n → en w1 a (pv.getD t 0) = if a = t then 1 else 0 := by
      intro t a ht ha
      rw [hen1]
      by_cases hne : i = pv.length
      · rw [if_pos hne]; exact h.unit t a ht ha
      · rw [if_neg hne]
        unfold swapR
        by_cases e1 : a = i
        · rw [if_pos e1, h.unit t _ ht hr, if_neg (by omega), if_neg (by omega)]
        · rw [if_neg e1]
          by_cases e2 : a = pv.length
          · rw [if_pos e2, h.unit t i ht hi, if_neg (by omega), if_neg (by omega)]
          · rw [if_neg e2]; exact h.unit t a ht ha
    have hzero1 : ∀ a j, pv.length ≤ a → a < n → j < k → en w1 a j = 0 := by
      intro a j ha1 ha2 hj
      rw [hen1]
      by_cases hne : i = pv.length
      · rw [if_pos hne]; exact h.zero a j ha1 ha2 hj
      · rw [if_neg hne]
        unfold swapR
        split
        · exact h.zero _ j (Nat.le_refl _) hr hj
        · split
          · exact h.zero i j (by omega) hi hj
          · exact h.zero a j ha1 ha2 hj
    obtain ⟨f1, hops1, hfd1⟩ := hops1
    have hnew : ∀ a j, a < n → en (clearL pv.length k w1) a j = clearX pv.length k (en w1) a j := fun a j ha => en_clearL hrect1 (by rw [hlen1]; exact ha) j
    have hmi := mul_inv hp hpiv
    refine ⟨by rw [clearL_length]; exact hlen1, hrect1.clear _ _, ⟨inv (en w1 pv.length k) * f1, (hops1.clear hp hr hpiv).congr (fun a j ha => (hnew a j ha).symm), by grind⟩, by simp; omega, ?_, ?_, ?_, ?_⟩
    · intro t ht
      rw [List.length_append, List.length_singleton] at ht
      by_cases e : t < pv.length
      · rw [getD_snoc_lt e]; have := h.lt t e; omega
      · have : t = pv.length := by omega
        subst this
        rw [getD_snoc_eq]; omega
    · intro t u htu hu
      rw [List.length_append, List.length_singleton] at hu
      by_cases e : u < pv.length
      · rw [getD_snoc_lt e, getD_snoc_lt (by omega)]; exact h.mono t u htu e
      · have : u = pv.length := by omega
        subst this
        rw [getD_snoc_eq, getD_snoc_lt htu]
        exact h.lt t htu
    · intro t a ht ha
      rw [List.length_append, List.length_singleton] at ht
      by_cases e : t < pv.length
      · rw [getD_snoc_lt e, hnew a _ ha]
        unfold clearX
        rw [hunit1 t pv.length e hr, if_neg (show ¬ pv.length = t by omega)]
        by_cases e2 : a = pv.length
        · rw [if_pos e2, if_neg (by omega)]; grind
        · rw [if_neg e2, hunit1 t a e ha]; grind
      · have : t = pv.length := by omega
        subst this
        rw [getD_snoc_eq, hnew a k ha]
        unfold clearX
        by_cases e2 : a = pv.length
        · rw [if_pos e2, if_pos e2]; exact hmi
        · rw [if_neg e2, if_neg e2]; grind
    · intro a j ha1 ha2 hj
      rw [List.length_append, List.length_singleton] at ha1
      rw [hnew a j ha2]
      unfold clearX
      rw [if_neg (by omega)]
      by_cases e : j = k
      · subst e; grind
      · rw [hzero1 a j (by omega) ha2 (by omega), hzero1 pv.length j (Nat.le_refl _) hr (by omega)]
        grind
end
end Go.Proofs.YtjpaichcaaacbaaDoorNum
end
section
namespace Go.Proofs.YtjpaichcaaacbaaDoorNum
section
variable {p : Nat}
def elems [NeZero p] : List (Fin p) := (List.range p).map el
theorem GJ.pv_ge [NeZero p] {n c k : Nat} {m : Nat → Nat → Fin p} {w : List (List (Fin p))} {pv : List Nat} {d : Fin p} (h : GJ n c k m w pv d) : ∀ t, t < pv.length → t ≤ pv.getD t 0 := by
  intro t
  induction t with
  | zero => intro _; exact Nat.zero_le _
  | succ t ih =>
    intro ht
    have h1 := ih (by omega)
    have h2 := h.mono t (t + 1) (by omega) ht
    omega
/-- As many pivots as columns: the pivots are the columns, one by one. -/
theorem GJ.pv_all [NeZero p] {n c k : Nat} {m : Nat → Nat → Fin p} {w : List (List (Fin p))} {pv : List Nat} {d : Fin p} (h : GJ n c k m w pv d) (hk : pv.length = k) : ∀ t, t < k → pv.getD t 0 = t := by
  have key : ∀ e t, t + e + 1 = k → pv.getD t 0 + e < k := by
    intro e
    induction e with
    | zero => intro t ht; have := h.lt t (by omega); omega
    | succ e ih =>
      intro t ht
      have h1 := ih (t + 1) (by omega)
      have h2 := h.mono t (t + 1) (by omega) (by omega)
      omega
  intro t ht
  have h1 := key (k - 1 - t) t (by omega)
  have h2 := h.pv_ge t (by omega)
  omega
theorem GJ.is_id [NeZero p] {n c : Nat} {m : Nat → Nat → Fin p} {w : List (List (Fin p))} {pv : List Nat} {d : Fin p} (h : GJ n c n m w pv d) (hk : pv.length = n) : ∀ i j, i < n → j < n → en w i j = idX i j := by
  intro i j hi hj
  have h1 := h.unit j i (by omega) hi
  rw [h.pv_all hk j hj] at h1
  exact h1
theorem GJ.inverse [NeZero p] (hp : IsPr p) {n c : Nat} {m : Nat → Nat → Fin p} {w : List (List (Fin p))} {pv : List Nat} {d : Fin p} (h : GJ n c n m w pv d) (hk : pv.length = n) (hu : ∀ i j, i < n → j < n → m i (n + j) = idX i j) :
    (∀ i j, i < n → j < n → mulX n (fun a b => en w a (n + b)) m i j = idX i j) ∧ (∀ i j, i < n → j < n → mulX n m (fun a b => en w a (n + b)) i j = idX i j) := by
  obtain ⟨f, hops, _⟩ := h.ops
  obtain ⟨q, r, e, rq, qr⟩ := hops.inverse hp
  have hid := h.is_id hk
  have hx : ∀ i j, i < n → j < n → en w i (n + j) = q i j := by
    intro i j hi hj
    rw [e i (n + j) hi]
    have e1 : mulX n q m i (n + j) = mulX n q idX i j := by
      unfold mulX
      exact sumF_congr (fun l hl => by rw [hu l j hl hj])
    rw [e1, mulX_id n q hj]
  have qm : ∀ i j, i < n → j < n → mulX n q m i j = idX i j := fun i j hi hj => (e i j hi).symm.trans (hid i j hi hj)
  -- m = r
  have hmr : ∀ i j, i < n → j < n → m i j = r i j := by
    intro i j hi hj
    have h1 : mulX n (mulX n r q) m i j = m i j := by
      rw [mulX_congr (a' := idX) (b' := m) (fun l hl => rq i l hi hl) (fun _ _ => rfl), id_mulX n m hi]
    have h3 : mulX n r (mulX n q m) i j = r i j := by
      rw [mulX_congr (a' := r) (b' := idX) (fun _ _ => rfl) (fun l hl => qm l j hl hj), mulX_id n r hj]
    rw [← h1, mulX_assoc, h3]
  constructor
  · intro i j hi hj
    rw [mulX_congr (a' := q) (b' := m) (fun l hl => hx i l hi hl) (fun _ _ => rfl)]
    exact qm i j hi hj
  · intro i j hi hj
    rw [mulX_congr (a' := r) (b' := q) (fun l hl => hmr i l hi hl) (fun l hl => hx l j hl hj)]
    exact rq i j hi hj
end
end Go.Proofs.YtjpaichcaaacbaaDoorNum
end
section
namespace Go.Proofs.YtjpaichcaaacbaaDoorNum
section
variable {p : Nat} [NeZero p]
theorem cf_drop (a : List (Fin p)) (n j : Nat) : cf (a.drop n) j = cf a (n + j) := by
  unfold cf
  rw [List.getD_eq_getElem?_getD, List.getD_eq_getElem?_getD, List.getElem?_drop]
end
end Go.Proofs.YtjpaichcaaacbaaDoorNum
end
namespace Go.Proofs.YtjpaichcaaacbaaDoorNum
end Go.Proofs.YtjpaichcaaacbaaDoorNum
section
namespace Go.Proofs.YtjpaichcaaacbaaDoorNum
section
variable {p : Nat} [NeZero p]
abbrev Pt (p : Nat) := Fin p × Fin p
def fits (f : List (Fin p)) (q : Pt p) : Bool := decide (peval f q.1 = q.2)
def errs (f : List (Fin p)) (l : List (Pt p)) : List (Pt p) := l.filter (fun q => !fits f q)
/-- A polynomial with at most deg + 1 coefficients and at most 'wrong' errors. -/
structure Good (f : List (Fin p)) (l : List (Pt p)) (deg wrong : Nat) : Prop where
  len : f.length ≤ deg + 1
  few : (errs f l).length ≤ wrong
theorem filter_both {α : Type} (l : List α) (a b : α → Bool) : l.length ≤ (l.filter (fun x => a x && b x)).length + (l.filter (fun x => !a x)).length + (l.filter (fun x => !b x)).length := by
  induction l with
  | nil => simp
  | cons x l ih =>
    rw [List.filter_cons, List.filter_cons, List.filter_cons]
    cases a x <;> cases b x <;> simp <;> omega
theorem Good.unique (hp : IsPr p) {f g : List (Fin p)} {l : List (Pt p)} {deg wrong : Nat} (hf : Good f l deg wrong) (hg : Good g l deg wrong) (hnd : (l.map Prod.fst).Nodup) (hn : deg + 1 + 2 * wrong ≤ l.length) (i : Nat) : cf f i = cf g i := by
  have h1 := filter_both l (fits f) (fits g)
  have h2 := hf.few
  have h3 := hg.few
  unfold errs at h2 h3
  refine eq_of_values hp (n := deg + 1) hf.len hg.len (xs := (l.filter (fun q => fits f q && fits g q)).map Prod.fst) (List.Nodup.sublist (List.Sublist.map _ (List.filter_sublist)) hnd) (by rw [List.length_map]; omega) (fun x hx => ?_) i
  obtain ⟨⟨a, y⟩, h4, rfl⟩ := List.mem_map.mp hx
  obtain ⟨_, h5⟩ := List.mem_filter.mp h4
  rw [Bool.and_eq_true] at h5
  exact (of_decide_eq_true h5.1).trans (of_decide_eq_true h5.2).symm
structure Monic (e : List (Fin p)) (n : Nat) : Prop where
  len : e.length = n + 1
  top : cf e n = 1
theorem Monic.tr (hp : IsPr p) {e : List (Fin p)} {n : Nat} (h : Monic e n) : Tr e := .inr (by rw [h.len, Nat.add_sub_cancel, h.top]; exact one_ne hp)
theorem Monic.next (hp : IsPr p) {e : List (Fin p)} {n : Nat} (h : Monic e n) (x : Fin p) : Monic (pmul e [-x, 1]) (n + 1) where
  len := by
    rw [pmul_length hp (h.tr hp) (.inr (by simpa [cf] using one_ne hp)) (fun c => by have := h.len; rw [c] at this; simp at this) (by simp), h.len]; rfl
  top := by
    rw [cf_pmul, conv_top (m := n) (k := 1) (fun i hi => cf_ge (by rw [h.len]; omega)) (fun i hi => cf_ge (by simp; omega)), h.top, cf_cons_succ, cf_cons_zero]; grind
end
end Go.Proofs.YtjpaichcaaacbaaDoorNum
end

/- Part K of: The statement ProductProofUnique: the law answers true whatever its arguments; no condition. -/
import Derived.Test.YtjkggiemnfigbaaZProductProofUniqueJ
import Derived.Maps.AppendAt
import Derived.Laws.MakeOwn
import Derived.Laws.OwnMore
import Derived.KernelRfl
import Derived.Laws.Rows
import Derived.Test.YtjkggiemnfigbaaProg
import Derived.Laws.Cells
import Derived.Laws.Entries
section
set_option linter.unusedSimpArgs false
set_option linter.unusedVariables false
namespace Go.Proofs.Ytjkggiemnfigbaa.HL
open Go
theorem alloc_old (w : World) (o : Obj) (i : Nat) (h : i < w.heap.size) : (w.alloc o).heap[i]? = w.heap[i]? := by first | exact heap_alloc_old w o i h | exact heap_alloc_old w o h
def cellH (H : HH) (a : Addr) : Option Value :=
  match H a.block with
  | some (.cells c _ _) => if a.spot.isSome then none else c[a.off]?
  | _ => none
theorem cellH_sat {H : HH} {W : World} {a : Addr} {v : Value} (hs : Sat H W) (h : cellH H a = some v) : W.cell? a = some v := by
  unfold cellH at h
  cases hb : H a.block with
  | none => rw [hb] at h; cases h
  | some o =>
    rw [hb] at h
    unfold World.cell?
    rw [hs _ _ hb]
    exact h
/-- All that is known stays known. -/
def Ext (H H' : HH) : Prop := ∀ b o, H b = some o → H' b = some o
theorem Ext.refl (H : HH) : Ext H H := fun _ _ h => h
theorem Ext.trans {A B C : HH} (h : Ext A B) (k : Ext B C) : Ext A C := fun b o hb => k b o (h b o hb)
theorem upd_self (H : HH) (b : Nat) (o : Obj) : upd H b o b = some o := by simp [upd]
theorem upd_ne {H : HH} {b k : Nat} (o : Obj) (h : k ≠ b) : upd H b o k = H k := by simp [upd, h]
theorem Ext.upd {H : HH} {b : Nat} (h : H b = none) (o : Obj) : Ext H (upd H b o) := fun k x hk => by
  rw [upd_ne o (fun e => by rw [e, h] at hk; cases hk)]
  exact hk
theorem Ext.none {H H' : HH} (h : Ext H H') {b : Nat} (hb : H' b = none) : H b = none := by
  cases hh : H b with
  | none => rfl
  | some o => rw [h b o hh] at hb; cases hb
theorem cellH_ext {H H' : HH} (h : Ext H H') {a : Addr} {v : Value} (hc : cellH H a = some v) : cellH H' a = some v := by
  unfold cellH at hc ⊢
  cases hb : H a.block with
  | none => rw [hb] at hc; cases hc
  | some o => rw [hb] at hc; rw [h _ _ hb]; exact hc
theorem cellH_blk {H : HH} {b i T : Nat} {cs : Array Value} {z : Nat × Nat} (h : H b = some (.cells cs T z)) : cellH H ⟨b, i, none⟩ = cs[i]? := by simp [cellH, h]
section
variable {P : Program} {base : Nat} {H : HH}
theorem HRun.mono {α : Type} {s : Sem α} {K K' : α → HH → Prop} (h : HRun P base s H K) (hk : ∀ v H', K v H' → K' v H') : HRun P base s H K' := fun W hs hb => by
  obtain ⟨v, W', H', hr, hK, hto⟩ := h W hs hb
  exact ⟨v, W', H', hr, hk _ _ hK, hto⟩
theorem QRun.h {α : Type} {s : Sem α} {v : α} {K : α → HH → Prop} (h : QRun P s H v) (hk : K v H) : HRun P base s H K := fun W hs hb => ⟨v, W, H, h W hs, hk, .refl hs⟩
theorem HCall.use {f : FuncId} {args : Array Value} {Q K : Value → HH → Prop} (h : HCall P base f args H Q) (hk : ∀ v H', Q v H' → K v H') : HCall P base f args H K :=
  ⟨h.enter, fun W hs hb => (h.run W hs hb).mono (fun e W' ⟨v, H', he, hQ, hto⟩ => ⟨v, H', he, hk _ _ hQ, hto⟩)⟩
theorem HCall.less {f : FuncId} {args : Array Value} {Q : Value → HH → Prop} (h : HCall P base f args H (fun v H' => Ext H H' ∧ Q v H)) : HCall P base f args H (fun v H' => H' = H ∧ Q v H) :=
  ⟨h.enter, fun W hs hb => (h.run W hs hb).mono (fun e W' ⟨v, H', he, hQ, hto⟩ => ⟨v, H, he, ⟨rfl, hQ.2⟩, hto.less hQ.1⟩)⟩
theorem HRun.less {α : Type} {s : Sem α} {K : α → HH → Prop} (h : HRun P base s H (fun v H' => ∃ H2, Ext H2 H' ∧ K v H2)) : HRun P base s H K := fun W hs hb => by
  obtain ⟨v, W', H', hr, ⟨H2, he, hK⟩, hto⟩ := h W hs hb
  exact ⟨v, W', H2, hr, hK, hto.less he⟩
theorem run_ti {t : TypeId} {i : TypeInfo} (h : P.info? t = some i) (W : World) : (typeInfo t).run P W = .ok i W := by
  unfold typeInfo
  simp [h]
theorem run_sz {t : TypeId} {n : Nat} (h : (P.info? t).map (·.size) = some n) (W : World) : (sizeOf t).run P W = .ok n W := by
  obtain ⟨i, hi, rfl⟩ := Option.map_eq_some_iff.1 h
  unfold sizeOf
  simp [run_ti hi]
def scalarB (P : Program) (t : TypeId) : Bool :=
  match P.underlying t with
  | some (.struct _) | some (.array _ _) | none => false
  | _ => true
def aggB (P : Program) (t : TypeId) : Bool :=
  match P.underlying t with
  | some (.struct _) | some (.array _ _) => true
  | _ => false
theorem run_isAgg_f {t : TypeId} (h : scalarB P t = true) (W : World) : (isAgg t).run P W = .ok false W := by
  unfold scalarB at h
  unfold isAgg
  cases hd : P.underlying t with
  | none => rw [hd] at h; cases h
  | some d =>
    rw [hd] at h
    rw [Sem.run_bind, run_under hd]
    cases d <;> simp_all
theorem run_isAgg_t {t : TypeId} (h : aggB P t = true) (W : World) : (isAgg t).run P W = .ok true W := by
  unfold aggB at h
  unfold isAgg
  cases hd : P.underlying t with
  | none => rw [hd] at h; cases h
  | some d =>
    rw [hd] at h
    rw [Sem.run_bind, run_under hd]
    cases d <;> simp_all
theorem q_ld {t : Nat} (ht : scalarB P t = true) {a : Addr} {v : Value} (hc : cellH H a = some v) : QRun P (Instr.loadAt t (.pointer (some a))) H v := fun W hs => by
  simp [Instr.loadAt, Instr.sureAddr, loadVar, run_isAgg_f ht, cellH_sat hs hc]
theorem q_lda {t : Nat} (ht : aggB P t = true) {a : Addr} {cs : List Value} (hz : (P.info? t).map (·.size) = some cs.length) (hc : ∀ j u, cs[j]? = some u → cellH H (a.add j) = some u) : QRun P (Instr.loadAt t (.pointer (some a))) H (.agg cs.toArray) := fun W hs => by
  simp [Instr.loadAt, Instr.sureAddr, loadVar, run_isAgg_t ht, run_sz hz, run_loadCells_list (P := P) W a cs (fun j v hv => cellH_sat hs (hc j v hv))]
theorem h_new {α : Type} {s : Sem α} {f : Nat → α} {o : Obj} {K : α → HH → Prop} (hr : ∀ W : World, s.run P W = .ok (f W.heap.size) (W.alloc o)) (h : ∀ b, H b = none → base ≤ b → K (f b) (upd H b o)) : HRun P base s H K := fun W hs hb => by
  have hn : H W.heap.size = none := by
    cases hh : H W.heap.size with
    | none => rfl
    | some x => have := hs _ _ hh; simp at this
  refine ⟨_, _, _, hr W, h W.heap.size hn hb, ⟨rfl, rfl, rfl, by simp, fun k hk _ => alloc_old W o k hk, fun b x hx => ?_, fun k hk h => ?_⟩⟩
  · by_cases e : b = W.heap.size
    · subst e; rw [upd_self] at hx; cases hx; exact heap_alloc_new W o
    · rw [upd_ne o e] at hx
      have := hs _ _ hx
      rw [alloc_old W o b (Array.getElem?_eq_some_iff.1 this).1]
      exact this
  · rw [upd_ne o (by omega)]; exact h
theorem h_box {t : Nat} {v : Value} {K : Value → HH → Prop} (h : ∀ b, H b = none → base ≤ b → K (.pointer (some ⟨b, 0, none⟩)) (upd H b (.cells v.cells t))) : HRun P base (Instr.box t v) H K :=
  h_new (o := .cells v.cells t) (f := fun b => .pointer (some ⟨b, 0, none⟩)) (fun W => by simp [Instr.box, newVar, newRow]) h
end
end Go.Proofs.Ytjkggiemnfigbaa.HL
end
section
set_option linter.unusedSimpArgs false
set_option linter.unusedVariables false
namespace Go.Proofs.Ytjkggiemnfigbaa.HL
open Go
/-- From ad on the cells xs lie. -/
def Rd (H : HH) (A : Option Addr) (xs : List Value) : Prop := xs = [] ∨ ∃ ad, A = some ad ∧ ∀ i u, xs[i]? = some u → cellH H (ad.add i) = some u
theorem Rd.ext {H H' : HH} {A : Option Addr} {xs : List Value} (h : Rd H A xs) (he : Ext H H') : Rd H' A xs := h.imp id (fun ⟨ad, e, hc⟩ => ⟨ad, e, fun i u hu => cellH_ext he (hc i u hu)⟩)
theorem Rd.nil (H : HH) (A : Option Addr) : Rd H A [] := .inl rfl
theorem Rd.get {H : HH} {A : Option Addr} {xs : List Value} (h : Rd H A xs) {i : Nat} {u : Value} (hu : xs[i]? = some u) : ∃ ad, A = some ad ∧ cellH H (ad.add i) = some u := by
  rcases h with rfl | ⟨ad, e, hc⟩
  · simp at hu
  · exact ⟨ad, e, hc i u hu⟩
/-- A row of n elements (type T, sz cells each) in a block of the call's own, from its head on; or nil. -/
def Own (base : Nat) (H : HH) (T sz : Nat) (v : Value) (n : Nat) (xs : List Value) : Prop :=
  xs.length = n * sz ∧ ((v = .slice none 0 0 ∧ n = 0) ∨
    ∃ g cap cur, v = .slice (some ⟨g, 0, none⟩) n cap ∧ base ≤ g ∧ H g = some (.cells cur T (0, 0)) ∧ n ≤ cap ∧ cap ≤ maxLen ∧ cur.size = cap * sz ∧ cur.toList.take (n * sz) = xs)
section
variable {base : Nat} {H H' : HH} {T sz n : Nat} {v : Value} {xs : List Value}
theorem Own.nil (base : Nat) (H : HH) (T sz : Nat) : Own base H T sz (.slice none 0 0) 0 [] := ⟨by simp, .inl ⟨rfl, rfl⟩⟩
theorem Own.move (h : Own base H T sz v n xs) (hm : ∀ g o, v.ownBlock = some g → H g = some o → H' g = some o) : Own base H' T sz v n xs := by
  obtain ⟨h1, h2⟩ := h
  refine ⟨h1, h2.imp id ?_⟩
  rintro ⟨g, cap, cur, rfl, hb, hg, r⟩
  exact ⟨g, cap, cur, rfl, hb, hm g _ rfl hg, r⟩
theorem Own.ext (h : Own base H T sz v n xs) (he : Ext H H') : Own base H' T sz v n xs := h.move (fun g o _ hg => he g o hg)
theorem Own.known (h : Own base H T sz v n xs) {g : Nat} (hg : v.ownBlock = some g) : base ≤ g ∧ ∃ cur, H g = some (.cells cur T (0, 0)) := by
  rcases h.2 with ⟨rfl, _⟩ | ⟨g', cap, cur, rfl, hb, hh, _⟩
  · simp [Value.ownBlock] at hg
  · have : g' = g := by simpa [Value.ownBlock] using hg
    subst this
    exact ⟨hb, cur, hh⟩
theorem Own.sat (h : Own base H T sz v n xs) {W : World} (hs : Sat H W) : W.ownsRow base T sz v n xs := by
  obtain ⟨h1, h2⟩ := h
  refine ⟨h1, h2.imp id ?_⟩
  rintro ⟨g, cap, cur, rfl, hb, hg, r⟩
  exact ⟨g, cap, cur, rfl, hb, hs _ _ hg, r⟩
theorem Own.slice (h : Own base H T sz v n xs) : ∃ A c, v = .slice A n c ∧ n ≤ c ∧ Rd H A xs := by
  obtain ⟨h1, h2⟩ := h
  rcases h2 with ⟨rfl, rfl⟩ | ⟨g, cap, cur, rfl, hb, hg, hc, _, _, ht⟩
  · exact ⟨_, _, rfl, Nat.le_refl _, .inl (List.eq_nil_of_length_eq_zero (by rw [h1, Nat.zero_mul]))⟩
  · refine ⟨_, _, rfl, hc, .inr ⟨_, rfl, fun i u hu => ?_⟩⟩
    have hadd : (⟨g, 0, none⟩ : Addr).add i = ⟨g, i, none⟩ := by unfold Addr.add; split <;> simp_all
    rw [hadd, cellH_blk hg]
    rw [← ht, List.getElem?_take] at hu
    split at hu
    · simpa using hu
    · cases hu
/-- The block, where there is one. -/
theorem Own.form (h : Own base H T sz v n xs) (hn : 0 < n) : ∃ g cap cur, v = .slice (some ⟨g, 0, none⟩) n cap ∧ base ≤ g ∧ H g = some (.cells cur T (0, 0)) ∧ n ≤ cap ∧ cur.size = cap * sz ∧ (∀ (i : Nat) (u : Value), xs[i]? = some u → cur[i]? = some u) := by
  obtain ⟨h1, h2⟩ := h
  rcases h2 with ⟨rfl, rfl⟩ | ⟨g, cap, cur, rfl, hb, hg, hc, _, hz, ht⟩
  · omega
  · refine ⟨g, cap, cur, rfl, hb, hg, hc, hz, fun i u hu => ?_⟩
    rw [← ht, List.getElem?_take] at hu
    split at hu
    · simpa using hu
    · cases hu
/-- A store into the block. -/
theorem Own.put (h : Own base H T sz v n xs) {g : Nat} (hg : v.ownBlock = some g) {cur : Array Value} (hc : H g = some (.cells cur T (0, 0))) (i : Nat) (u : Value) : Own base (upd H g (.cells (cur.setIfInBounds i u) T (0, 0))) T sz v n (xs.set i u) := by
  obtain ⟨h1, h2⟩ := h
  refine ⟨by rw [List.length_set]; exact h1, h2.imp id ?_⟩
  rintro ⟨g', cap, cur', rfl, hb, hg', r1, r2, r3, r4⟩
  have : g' = g := by simpa [Value.ownBlock] using hg
  subst this
  rw [hc] at hg'
  cases hg'
  exact ⟨g', cap, _, rfl, hb, upd_self _ _ _, r1, r2, by simpa using r3, by rw [Array.toList_setIfInBounds, ← r4, List.take_set]⟩
theorem Own.far (h : Own base H T sz v n xs) {g : Nat} (hg : v.ownBlock ≠ some g) (o : Obj) : Own base (upd H g o) T sz v n xs := h.move (fun k x hk hx => by rw [upd_ne _ (fun e => hg (by rw [hk, e]))]; exact hx)
theorem Own.lit {b : Nat} (hb : base ≤ b) (cs : Array Value) (n : Nat) (hm : n ≤ maxLen) (hs : cs.size = n * sz) : Own base (upd H b (.cells cs T (0, 0))) T sz (.slice (some ⟨b, 0, none⟩) n n) n cs.toList :=
  ⟨by simpa using hs, .inr ⟨b, n, cs, rfl, hb, upd_self _ _ _, Nat.le_refl _, hm, hs, List.take_of_length_le (by rw [Array.length_toList, hs]; exact Nat.le_refl _)⟩⟩
theorem Own.take {g c : Nat} (h : Own base H T sz (.slice (some ⟨g, 0, none⟩) n c) n xs) {m : Nat} (hm : m ≤ n) : Own base H T sz (.slice (some ⟨g, 0, none⟩) m c) m (xs.take (m * sz)) := by
  obtain ⟨h1, h2⟩ := h
  rcases h2 with ⟨h2, _⟩ | ⟨g', cap, cur, e, hb, hg, r1, r2, r3, r4⟩
  · cases h2
  · cases e
    refine ⟨?_, .inr ⟨g, c, cur, rfl, hb, hg, by omega, r2, r3, ?_⟩⟩
    · rw [List.length_take, h1]; exact Nat.min_eq_left (Nat.mul_le_mul_right _ hm)
    · rw [← r4, List.take_take, Nat.min_eq_left (Nat.mul_le_mul_right _ hm)]
end
/-- What is known but for the block of v; and of v' (v's block, or a new one). -/
structure Grows (H H' : HH) (v v' : Value) : Prop where
  keep : ∀ b o, v.ownBlock ≠ some b → H b = some o → H' b = some o
  at_ : v'.ownBlock = v.ownBlock ∨ ∀ b, v'.ownBlock = some b → H b = none
section
variable {P : Program} {base : Nat} {H : HH} {K : Value → HH → Prop}
theorem h_app {t e sz by_ ty : Nat} {z : Value} (ht : P.underlying t = some (.slice e)) (hi : (P.info? e).map (fun i => (i.zero, i.size, i.bytes)) = some (some z, sz, by_)) (hz : z.cells.size = sz) (hsz : 0 < sz)
    {v : Value} {n m c : Nat} {xs ys : List Value} {A : Option Addr} (ho : Own base H e sz v n xs) (hy : Rd H A ys) (hm : ys.length = m * sz) (h1 : ∀ u ∈ ys, u.oneCell' = true) (hA : A = none → m = 0) (hlim : n + m < 1099511627776) (hby : by_ ≤ 128)
    (h : ∀ A' c' H', Own base H' e sz (.slice A' (n + m) c') (n + m) (xs ++ ys) → Grows H H' v (.slice A' (n + m) c') → K (.slice A' (n + m) c') H') : HRun P base (Builtin.append_ #[t, t] ty #[v, .slice A m c]) H K := fun W hs hb => by
  obtain ⟨i, hi', hzz⟩ := Option.map_eq_some_iff.1 hi
  simp only [Prod.mk.injEq] at hzz
  obtain ⟨e1, e2, e3⟩ := hzz
  have hmem : ∀ j u, ys[j]? = some u → ∀ ad, A = some ad → W.cell? (ad.add j) = some u := fun j u hu ad e => by
    obtain ⟨ad', e', hc⟩ := hy.get hu
    rw [e] at e'; cases e'
    exact cellH_sat hs hc
  have fin : ∀ v' W', (Builtin.append_ #[t, t] ty #[v, .slice A m c]).run P W = .ok v' W' → W'.ownsRow base e sz v' (n + m) (xs ++ ys) → W.grownBy W' v.ownBlock → (v'.ownBlock = v.ownBlock ∨ v'.ownBlock = some W.heap.size) →
      ∃ r_ W2 H2, (Builtin.append_ #[t, t] ty #[v, .slice A m c]).run P W = .ok r_ W2 ∧ K r_ H2 ∧ To base H W H2 W2 := fun v' W' hr hown hg hat => by
    obtain ⟨H', hH⟩ : ∃ H' : HH, H' = fun b => if v'.ownBlock = some b then W'.heap[b]? else if v.ownBlock = some b then none else H b := ⟨_, rfl⟩
    have hnew : H W.heap.size = none := by
      cases hh : H W.heap.size with
      | none => rfl
      | some x => have := hs _ _ hh; simp at this
    have hO : Own base H' e sz v' (n + m) (xs ++ ys) := by
      obtain ⟨h1, h2⟩ := hown
      refine ⟨h1, h2.imp id ?_⟩
      rintro ⟨g, cap, cur, rfl, hb, hg, r⟩
      exact ⟨g, cap, cur, rfl, hb, by rw [hH]; simp [Value.ownBlock, hg], r⟩
    obtain ⟨A', c', rfl, _⟩ := hO.slice
    have hat' : (Value.slice A' (n + m) c').ownBlock = v.ownBlock ∨ ∀ b, (Value.slice A' (n + m) c').ownBlock = some b → H b = none := hat.imp id (fun e b hb => by rw [e] at hb; cases hb; exact hnew)
    refine ⟨_, W', H', hr, h A' c' H' hO ⟨fun b o hb ho' => ?_, hat'⟩, ⟨hg.os, hg.tape, hg.output, hg.size, fun k hk hn => ?_, fun b o hb => ?_, fun k hk hn => ?_⟩⟩
    · rw [hH]
      dsimp only
      rw [if_neg (fun e => ?_), if_neg hb]
      · exact ho'
      · rcases hat' with h2 | h2
        · exact hb (h2.symm.trans e)
        · rw [h2 b e] at ho'; cases ho'
    · refine hg.block k hk (fun e => ?_)
      obtain ⟨h2, cur, h3⟩ := ho.known e.symm
      rcases hn with hn | hn
      · omega
      · rw [h3] at hn; cases hn
    · rw [hH] at hb
      dsimp only at hb
      split at hb
      · exact hb
      · split at hb
        · cases hb
        · rename_i h2 h3
          have := hs _ _ hb
          rw [hg.block b (Array.getElem?_eq_some_iff.1 this).1 (fun e => h3 e.symm)]
          exact this
    · rw [hH]
      dsimp only
      rw [if_neg (fun e => ?_)]
      · split
        · rfl
        · exact hn
      · rcases hat with h2 | h2
        · rw [h2] at e
          obtain ⟨_, cur, h3⟩ := ho.known e
          rw [h3] at hn; cases hn
        · rw [h2] at e; cases e; omega
  cases A with
  | none =>
    have hm0 : m = 0 := hA rfl
    subst hm0
    have hy0 : ys = [] := List.eq_nil_of_length_eq_zero (by rw [hm, Nat.zero_mul])
    subst hy0
    rcases (ho.sat hs).2 with ⟨hv, hn⟩ | ⟨g, cap, cur, hv, _, hg2, hnc, _⟩
    · have hr : (Builtin.append_ #[t, t] ty #[v, .slice none 0 c]).run P W = .ok v W := by
        subst hv; subst hn
        simp [Builtin.append_, run_under ht, sizeOf, typeInfo, hi', Builtin.lenOf, Builtin.firstCells]
      exact fin v W hr (by simpa using ho.sat hs) ⟨rfl, rfl, rfl, Nat.le_refl _, fun _ _ _ => rfl⟩ (.inl rfl)
    · have hr : (Builtin.append_ #[t, t] ty #[v, .slice none 0 c]).run P W = .ok v W := by
        subst hv
        simp [Builtin.append_, run_under ht, sizeOf, typeInfo, hi', Builtin.lenOf, Builtin.firstCells, hnc, storeCells]
      exact fin v W hr (by simpa using ho.sat hs) ⟨rfl, rfl, rfl, Nat.le_refl _, fun _ _ _ => rfl⟩ (.inl rfl)
  | some ad =>
    obtain ⟨v', W', hr, hown, hg, _, hat⟩ := run_append_own_at (P := P) W base t ty e i z sz by_ ht hi' e1 e2 e3 hz hsz v n xs (ho.sat hs) ad m c ys hm (fun j u hu => hmem j u hu ad rfl) h1 (by unfold maxLen; omega)
      (by calc (n + m) * by_ ≤ 1099511627776 * 128 := Nat.mul_le_mul (by omega) hby
          _ ≤ 140737488355328 := by omega) hb
    exact fin v' W' hr hown hg hat
theorem h_lit {t e sz n : Nat} {parts : Array (Nat × Value)} {z : Value} {cs : Array Value} (ht : P.underlying t = some (.slice e)) (hi : (P.info? e).map (fun i => (i.zero, i.size)) = some (some z, sz)) (hl : n * sz ≤ 16777216)
    (hf : Instr.fill (fun i => some (i * sz, sz)) (madeCells z.cells (n * sz)) parts.toList = some cs) (hn : 0 < n * sz)
    (h : ∀ b, H b = none → base ≤ b → K (.slice (some ⟨b, 0, none⟩) n n) (upd H b (.cells cs e))) : HRun P base (Instr.buildSlice t n parts) H K := by
  obtain ⟨i, hi', hzz⟩ := Option.map_eq_some_iff.1 hi
  simp only [Prod.mk.injEq] at hzz
  obtain ⟨e1, e2⟩ := hzz
  refine h_new (o := .cells cs e) (f := fun b => .slice (some ⟨b, 0, none⟩) n n) (fun W => ?_) h
  unfold madeCells at hf
  simp [Instr.buildSlice, run_under ht, sizeOf, zeroValue, run_ti hi', e1, e2, show ¬ (16777216 < n * sz) by omega, show ¬ (n * sz = 0) by omega, hf, newRow]
end
end Go.Proofs.Ytjkggiemnfigbaa.HL
end
section
set_option linter.unusedVariables false
namespace Go.Proofs.Ytjkggiemnfigbaa.HL
open Go Go.RowKit Go.Proofs.YtjkggiemnfigbaaW.PrintWords Go.Proofs.YtjkggiemnfigbaaW.PrintMore Go.Proofs.Ytjkggiemnfigbaa.PF Go.Proofs.YtjkggiemnfigbaaNum Go.Proofs.Ytjkggiemnfigbaa.FEv
theorem enters {P : Program} {f : FuncId} {fn : Func} (hf : P.funcs[f]? = some fn) (hc : (fn.name != "runtime.NumGoroutine" && fn.body.isSome) = true) {args : Array Value} (W : World) : (callFunc f args).run P W = .ok (.enter f args) W := by
  simp only [Bool.and_eq_true, bne_iff_ne, ne_eq] at hc
  obtain ⟨hc1, hc2⟩ := hc
  obtain ⟨c, hb⟩ := Option.isSome_iff_exists.1 hc2
  simp [callFunc, hf, hb, hc1]
theorem To.below {base : Nat} {H : HH} {W W' : World} (hs : Sat H W) (h : Below W.heap.size W W') : To base H W H W' :=
  ⟨h.os, h.tape, h.output, h.size, fun k hk _ => h.block k hk, fun b o hb => (h.block b (Array.getElem?_eq_some_iff.1 (hs b o hb)).1).trans (hs b o hb), fun _ _ h => h⟩
theorem HCall.of {P : Program} {base : Nat} {f : FuncId} {args : Array Value} {H : HH} {v : Value} (he : ∀ W, (callFunc f args).run P W = .ok (.enter f args) W) (h : ∀ W, Calls P f args W fun e w' => e = .returned v ∧ Below W.heap.size W w') : HCall P base f args H fun v' H' => v' = v ∧ H' = H :=
  ⟨he, fun W hs hb => (h W).mono fun e W' ⟨h1, h2⟩ => ⟨v, H, h1, ⟨rfl, rfl⟩, .below hs h2⟩⟩
theorem HCall.drew {P : Program} {base : Nat} {f : FuncId} {args : Array Value} {H : HH} {v : Value} (he : ∀ W, (callFunc f args).run P W = .ok (.enter f args) W) (h : ∀ W, Calls P f args W fun e w' => e = .returned v ∧ Drawn0 W w') : HCall P base f args H fun v' H' => v' = v ∧ H' = H :=
  .of he fun W => (h W).mono fun e W' ⟨h1, h2⟩ => ⟨h1, h2.below⟩
theorem HCall.to {P : Program} {base : Nat} {f : FuncId} {args : Array Value} {H : HH} {v : Value} {K : Value → HH → Prop} (h : HCall P base f args H fun v' H' => v' = v ∧ H' = H) (hk : K v H) : HCall P base f args H K :=
  h.use fun v' H' ⟨h1, h2⟩ => by subst h1; subst h2; exact hk
section
variable {p : Nat} [NeZero p] {base : Nat} {H : HH} {K : Value → HH → Prop}
theorem h_add (hp : Sup p) (a b : Fin p) (hk : K (.int .u64 (V (a + b))) H) : HCall Try.prog base 31 #[.int .u64 p, .int .u64 (V a), .int .u64 (V b)] H K := by
  obtain ⟨k, hk'⟩ := (add_ev hp a b).rounds
  exact (HCall.drew (enters Try.func31 (by kernel_rfl)) (fun W => field_Add.calls k _ _ _ _ W hk')).to hk
theorem h_mul (hp : Sup p) (a b : Fin p) (hk : K (.int .u64 (V (a * b))) H) : HCall Try.prog base 21 #[.int .u64 p, .int .u64 (V a), .int .u64 (V b)] H K := by
  obtain ⟨k, hk'⟩ := (mul_ev hp a b).rounds
  exact (HCall.drew (enters Try.func21 (by kernel_rfl)) (fun W => field_Mul.calls k _ _ _ _ W hk')).to hk
theorem h_sub (hp : Sup p) (a b : Fin p) (hk : K (.int .u64 (V (a - b))) H) : HCall Try.prog base 39 #[.int .u64 p, .int .u64 (V a), .int .u64 (V b)] H K := by
  obtain ⟨k, hk'⟩ := (sub_ev hp a b).rounds
  exact (HCall.drew (enters Try.func39 (by kernel_rfl)) (fun W => field_Sub.calls k _ _ _ _ W hk')).to hk
end
def supB (x : Int) : Bool := [31, 127, 8191, 131071, 524287, 2147483647, 2305843009213693951].contains x
theorem supB_iff {x : Int} : supB x = true ↔ ∃ p : Nat, Sup p ∧ x = p := by
  simp only [supB, List.contains_cons, List.contains_nil, Bool.or_false, Bool.or_eq_true, beq_iff_eq]
  constructor
  · intro h
    exact ⟨x.toNat, by unfold Sup; omega, by omega⟩
  · rintro ⟨p, h, rfl⟩
    unfold Sup at h
    omega
theorem sup_ev (x : Int) : Ev (fun k => privityref01_Supported.f k x) (supB x) := by
  unfold privityref01_Supported.f privityref01_Exponent.f privityref01_exps.f
  simp only [Option.bind_some]
  have st : ∀ (j : Nat) (q pj : Int), j < 7 → rd [5, 7, 13, 17, 19, 31, 61] (j : Int) = q → IntKind.u64.wrap ((shl .u64 1 (IntKind.u64.wrap q)) - 1) = pj → 0 ≤ IntKind.u64.wrap q → ∀ k, privityref01_Exponent.l0 (k + 1) x [5, 7, 13, 17, 19, 31, 61] j = if x = pj then some q else privityref01_Exponent.l0 k x [5, 7, 13, 17, 19, 31, 61] ((j + 1 : Nat) : Int) := by
    intro j q pj hj h1 h2 h3 k
    rw [privityref01_Exponent.l0, if_pos (by simp; omega), if_pos (by omega), h1, if_pos h3, h2, show wrap64 ((j : Int) + 1) = ((j + 1 : Nat) : Int) by unfold wrap64; omega]
  refine ⟨8, fun k hk => ?_⟩
  obtain ⟨m, rfl⟩ : ∃ m, k = m + 1 + 1 + 1 + 1 + 1 + 1 + 1 + 1 := ⟨k - 8, by omega⟩
  have := st 0 5 31 (by decide) rfl (by decide) (by decide) (m + 1 + 1 + 1 + 1 + 1 + 1 + 1)
  rw [show ((0 : Nat) : Int) = 0 from rfl] at this
  dsimp only
  rw [this, st 1 7 127 (by decide) rfl (by decide) (by decide), st 2 13 8191 (by decide) rfl (by decide) (by decide), st 3 17 131071 (by decide) rfl (by decide) (by decide), st 4 19 524287 (by decide) rfl (by decide) (by decide), st 5 31 2147483647 (by decide) rfl (by decide) (by decide), st 6 61 2305843009213693951 (by decide) rfl (by decide) (by decide)]
  have last : privityref01_Exponent.l0 (m + 1) x [5, 7, 13, 17, 19, 31, 61] ((6 + 1 : Nat) : Int) = some 0 := by rw [privityref01_Exponent.l0, if_neg (by decide)]
  rw [last]
  clear this st last
  unfold supB
  simp only [List.contains_cons, List.contains_nil, Bool.or_false]
  repeat' split
  all_goals simp_all
theorem h_sup {base : Nat} {H : HH} {K : Value → HH → Prop} (x : Int) (hk : K (.bool (supB x)) H) : HCall Try.prog base 25 #[.int .u64 x] H K := by
  obtain ⟨k, hk'⟩ := (sup_ev x).rounds
  exact (HCall.of (enters Try.func25 (by kernel_rfl)) (fun W => privityref01_Supported.calls k _ _ W hk')).to hk
end Go.Proofs.Ytjkggiemnfigbaa.HL
end
section
set_option linter.unusedVariables false
set_option linter.unusedSimpArgs false
set_option maxRecDepth 100000
namespace Go.Proofs.Ytjkggiemnfigbaa.HL
open Go
theorem mix : Try.prog.follows .mixedOrders = true := by kernel_rfl
def poly_Eval.ann : Ann := ⟨fun k => bif Nat.beq k 5 then [] else [], fun k => false, fun k => bif Nat.beq k 3 then [0, 1, 2, 7, 8] else []⟩
def poly_Eval.P0 (base : Nat) (l : List Value) (H0 : HH) (K : Value → HH → Prop) : Prop := HCodeL Try.prog base 27 (codeAt [.r, .r, .l, .r, .b] (bodyOf Try.f23)) [0, 1, 2, 7, 8] l H0 (qAt Try.prog base 27 poly_Eval.ann [.r, .r, .l, .r, .b] [] (bodyOf Try.f23) (retQ Try.prog 27 Try.f23 K))
def poly_Eval.sh (base : Nat) (x0 : Int) (Ax1 : Option Addr) (lx1 cx1 : Nat) (x2 : Int) (H0 : HH) (K : Value → HH → Prop) : Prop :=
 poly_Eval.P0 base [(.int .u64 x0), (.slice Ax1 lx1 cx1), (.int .u64 x2), (.int .u64 0), (.int .i64 ((IntKind.i64.wrap ((((lx1 : Nat) : Int)) - 1))))] H0 K
theorem poly_Eval.spec {base : Nat} {x0 : Int} {Ax1 : Option Addr} {lx1 cx1 : Nat} {x2 : Int} {H0 : HH} {K : Value → HH → Prop} (h : poly_Eval.sh base x0 Ax1 lx1 cx1 x2 H0 K) : HCall Try.prog base 23 #[(.int .u64 x0), (.slice Ax1 lx1 cx1), (.int .u64 x2)] H0 K := spec_of_wpC (n := 27) (ann := poly_Eval.ann) mix Try.func23 (by kernel_rfl) (cast (show poly_Eval.sh base x0 Ax1 lx1 cx1 x2 H0 K = wpC Try.prog base 27 poly_Eval.ann (bodyOf Try.f23) (ofL [(.int .u64 x0), (.slice Ax1 lx1 cx1), (.int .u64 x2)]) H0 (retQ Try.prog 27 Try.f23 K) by kernel_rfl) h)
def poly_Eval.B0 (base : Nat) (x0 : Int) (Ax1 : Option Addr) (lx1 cx1 : Nat) (x2 : Int) (y7 : Int) (y8 : Int) (g : Fr) (N0 : Value → Value → HH → Prop) (H0 : HH) (K : Value → HH → Prop) : Prop :=
 if (decide ((y8 : Int) ≥ 0)) = true then
 ∃ n1 : Int, HCall Try.prog base 21 #[(.int .u64 x0), (.int .u64 y7), (.int .u64 x2)] H0 (fun v_ H_ => v_ = (.int .u64 n1) ∧ H_ = H0) ∧
 ∃ a2 : Addr, AQ Try.prog (Instr.indexAt 23 (.slice Ax1 lx1 cx1) (.int .i64 y8)) (.pointer ((some a2))) ∧
 ∃ n3 : Int, QRun Try.prog (Instr.loadAt 22 (.pointer ((some a2)))) H0 (.int .u64 n3) ∧
 ∃ n4 : Int, HCall Try.prog base 31 #[(.int .u64 x0), (.int .u64 n1), (.int .u64 n3)] H0 (fun v_ H_ => v_ = (.int .u64 n4) ∧ H_ = H0) ∧
 N0 (.int .u64 n4) (.int .i64 ((IntKind.i64.wrap (y8 - 1)))) H0
 else
 K (.int .u64 y7) H0
theorem poly_Eval.loop0 {base : Nat} {x0 : Int} {Ax1 : Option Addr} {lx1 cx1 : Nat} {x2 y7_i y8_i : Int} {H0 : HH} {K : Value → HH → Prop} (J : Nat → Int → Int → HH → Prop) (n : Nat) (h0 : J n y7_i y8_i H0)
    (hs : ∀ (n : Nat) (y7 : Int) (y8 : Int) (g : Fr) (H0 : HH), J n y7 y8 H0 → poly_Eval.B0 base x0 Ax1 lx1 cx1 x2 y7 y8 g (fun w7 w8 H => ∃ n', n' < n ∧ ∃ (y7' : Int) (y8' : Int), w7 = (.int .u64 y7') ∧ w8 = (.int .i64 y8') ∧ J n' y7' y8' H) H0 K) : poly_Eval.P0 base [(.int .u64 x0), (.slice Ax1 lx1 cx1), (.int .u64 x2), (.int .u64 y7_i), (.int .i64 y8_i)] H0 K := by
  refine loop_rule (ann := poly_Eval.ann) (body := codeAt [.r, .r, .l, .r, .b, .lp] (bodyOf Try.f23)) mix (by kernel_rfl) 67105152 (by kernel_rfl) [0, 1, 2] [(.int .u64 x0), (.slice Ax1 lx1 cx1), (.int .u64 x2)] (by kernel_rfl) (fun fr ⟨e0, e1, e2, e7, e8, _⟩ => ⟨e0, e1, e2, trivial⟩) (fun n g H => ∃ (y7 : Int) (y8 : Int), g 7 = (.int .u64 y7) ∧ g 8 = (.int .i64 y8) ∧ J n y7 y8 H) n (fun fr ⟨e0, e1, e2, e7, e8, _⟩ => ⟨y7_i, y8_i, e7, e8, h0⟩) ?_
  rintro n g H0 ⟨e0, e1, e2, _⟩ ⟨y7, y8, e7, e8, hJ⟩
  rw [← ov_eq (g := g) [(0, (.int .u64 x0)), (1, (.slice Ax1 lx1 cx1)), (2, (.int .u64 x2)), (7, (.int .u64 y7)), (8, (.int .i64 y8))] (by simp only [List.mem_cons, List.not_mem_nil, or_false, forall_eq_or_imp, forall_eq, false_implies, implies_true]; exact ⟨e0, e1, e2, e7, e8⟩)]
  have key : ∀ NN : Value → Value → HH → Prop, poly_Eval.B0 base x0 Ax1 lx1 cx1 x2 y7 y8 g NN H0 K = wpC Try.prog base 27 poly_Eval.ann (codeAt [.r, .r, .l, .r, .b, .lp] (bodyOf Try.f23)) (ov g [(0, (.int .u64 x0)), (1, (.slice Ax1 lx1 cx1)), (2, (.int .u64 x2)), (7, (.int .u64 y7)), (8, (.int .i64 y8))]) H0 (thenQ (fun fr H => NN (fr 7) (fr 8) H) (qAt Try.prog base 27 poly_Eval.ann [.r, .r, .l, .r, .b] [] (bodyOf Try.f23) (retQ Try.prog 27 Try.f23 K))) := fun NN => by kernel_rfl
  refine cast ?_ (hs n y7 y8 g H0 hJ)
  refine (key (fun w7 w8 H => ∃ n', n' < n ∧ ∃ (y7' : Int) (y8' : Int), w7 = (.int .u64 y7') ∧ w8 = (.int .i64 y8') ∧ J n' y7' y8' H)).trans ?_
  kernel_rfl
def poly_Trim.ann : Ann := ⟨fun k => [], fun k => false, fun k => []⟩
def poly_Degree.ann : Ann := ⟨fun k => [], fun k => false, fun k => bif Nat.beq k 2 then [0, 3] else []⟩
def poly_Coefficient.ann : Ann := ⟨fun k => [], fun k => false, fun k => []⟩
def poly_Scale.ann : Ann := ⟨fun k => [], fun k => false, fun k => bif Nat.beq k 3 then [0, 1, 7, 13, 14, 15] else []⟩
def privityref06_Same.ann : Ann := ⟨fun k => bif Nat.beq k 6 then [8] else [], fun k => false, fun k => bif Nat.beq k 4 then [0, 1, 5] else []⟩
def privityref06_Same.P0 (base : Nat) (l : List Value) (H0 : HH) (K : Value → HH → Prop) : Prop := HCodeL Try.prog base 27 (codeAt [.r, .r, .l, .r, .b] (bodyOf Try.f19)) [0, 1, 5] l H0 (qAt Try.prog base 27 privityref06_Same.ann [.r, .r, .l, .r, .b] [] (bodyOf Try.f19) (retQ Try.prog 27 Try.f19 K))
def privityref06_Same.sh (base : Nat) (Ax0 : Option Addr) (lx0 cx0 : Nat) (Ax1 : Option Addr) (lx1 cx1 : Nat) (H0 : HH) (K : Value → HH → Prop) : Prop :=
 if ((((lx0 : Nat) : Int) : Int) != (((lx1 : Nat) : Int))) = true then
 K (.bool false) H0
 else
 privityref06_Same.P0 base [(.slice Ax0 lx0 cx0), (.slice Ax1 lx1 cx1), (.int .i64 0)] H0 K
theorem privityref06_Same.spec {base : Nat} {Ax0 : Option Addr} {lx0 cx0 : Nat} {Ax1 : Option Addr} {lx1 cx1 : Nat} {H0 : HH} {K : Value → HH → Prop} (h : privityref06_Same.sh base Ax0 lx0 cx0 Ax1 lx1 cx1 H0 K) : HCall Try.prog base 19 #[(.slice Ax0 lx0 cx0), (.slice Ax1 lx1 cx1)] H0 K := spec_of_wpC (n := 27) (ann := privityref06_Same.ann) mix Try.func19 (by kernel_rfl) (cast (show privityref06_Same.sh base Ax0 lx0 cx0 Ax1 lx1 cx1 H0 K = wpC Try.prog base 27 privityref06_Same.ann (bodyOf Try.f19) (ofL [(.slice Ax0 lx0 cx0), (.slice Ax1 lx1 cx1)]) H0 (retQ Try.prog 27 Try.f19 K) by kernel_rfl) h)
def privityref06_Same.B0 (base : Nat) (Ax0 : Option Addr) (lx0 cx0 : Nat) (Ax1 : Option Addr) (lx1 cx1 : Nat) (y5 : Int) (g : Fr) (N0 : Value → HH → Prop) (H0 : HH) (K : Value → HH → Prop) : Prop :=
 if (decide ((y5 : Int) < (((lx0 : Nat) : Int)))) = true then
 ∃ a1 : Addr, AQ Try.prog (Instr.indexAt 28 (.slice Ax0 lx0 cx0) (.int .i64 y5)) (.pointer ((some a1))) ∧
 ∃ (A2 : Option Addr) (l2 c2 : Nat), QRun Try.prog (Instr.loadAt 23 (.pointer ((some a1)))) H0 (.slice A2 l2 c2) ∧
 ∃ a3 : Addr, AQ Try.prog (Instr.indexAt 28 (.slice Ax1 lx1 cx1) (.int .i64 y5)) (.pointer ((some a3))) ∧
 ∃ (A4 : Option Addr) (l4 c4 : Nat), QRun Try.prog (Instr.loadAt 23 (.pointer ((some a3)))) H0 (.slice A4 l4 c4) ∧
 HCall Try.prog base 20 #[(.slice A2 l2 c2), (.slice A4 l4 c4)] H0 fun v5 H6 =>
 ∃ b7 : Bool, v5 = (.bool b7) ∧ if (!b7) = true then
 K (.bool false) H6
 else
 N0 (.int .i64 ((IntKind.i64.wrap (y5 + 1)))) H6
 else
 K (.bool true) H0
theorem privityref06_Same.loop0 {base : Nat} {Ax0 : Option Addr} {lx0 cx0 : Nat} {Ax1 : Option Addr} {lx1 cx1 : Nat} {y5_i : Int} {H0 : HH} {K : Value → HH → Prop} (J : Nat → Int → HH → Prop) (n : Nat) (h0 : J n y5_i H0)
    (hs : ∀ (n : Nat) (y5 : Int) (g : Fr) (H0 : HH), J n y5 H0 → privityref06_Same.B0 base Ax0 lx0 cx0 Ax1 lx1 cx1 y5 g (fun w5 H => ∃ n', n' < n ∧ ∃ (y5' : Int), w5 = (.int .i64 y5') ∧ J n' y5' H) H0 K) : privityref06_Same.P0 base [(.slice Ax0 lx0 cx0), (.slice Ax1 lx1 cx1), (.int .i64 y5_i)] H0 K := by
  refine loop_rule (ann := privityref06_Same.ann) (body := codeAt [.r, .r, .l, .r, .b, .lp] (bodyOf Try.f19)) mix (by kernel_rfl) 134215728 (by kernel_rfl) [0, 1] [(.slice Ax0 lx0 cx0), (.slice Ax1 lx1 cx1)] (by kernel_rfl) (fun fr ⟨e0, e1, e5, _⟩ => ⟨e0, e1, trivial⟩) (fun n g H => ∃ (y5 : Int), g 5 = (.int .i64 y5) ∧ J n y5 H) n (fun fr ⟨e0, e1, e5, _⟩ => ⟨y5_i, e5, h0⟩) ?_
  rintro n g H0 ⟨e0, e1, _⟩ ⟨y5, e5, hJ⟩
  rw [← ov_eq (g := g) [(0, (.slice Ax0 lx0 cx0)), (1, (.slice Ax1 lx1 cx1)), (5, (.int .i64 y5))] (by simp only [List.mem_cons, List.not_mem_nil, or_false, forall_eq_or_imp, forall_eq, false_implies, implies_true]; exact ⟨e0, e1, e5⟩)]
  have key : ∀ NN : Value → HH → Prop, privityref06_Same.B0 base Ax0 lx0 cx0 Ax1 lx1 cx1 y5 g NN H0 K = wpC Try.prog base 27 privityref06_Same.ann (codeAt [.r, .r, .l, .r, .b, .lp] (bodyOf Try.f19)) (ov g [(0, (.slice Ax0 lx0 cx0)), (1, (.slice Ax1 lx1 cx1)), (5, (.int .i64 y5))]) H0 (thenQ (fun fr H => NN (fr 5) H) (qAt Try.prog base 27 privityref06_Same.ann [.r, .r, .l, .r, .b] [] (bodyOf Try.f19) (retQ Try.prog 27 Try.f19 K))) := fun NN => by kernel_rfl
  refine cast ?_ (hs n y5 g H0 hJ)
  refine (key (fun w5 H => ∃ n', n' < n ∧ ∃ (y5' : Int), w5 = (.int .i64 y5') ∧ J n' y5' H)).trans ?_
  kernel_rfl
def privityref06_SameList.ann : Ann := ⟨fun k => bif Nat.beq k 6 then [] else [], fun k => false, fun k => bif Nat.beq k 4 then [0, 1, 5] else []⟩
def privityref06_SameList.P0 (base : Nat) (l : List Value) (H0 : HH) (K : Value → HH → Prop) : Prop := HCodeL Try.prog base 26 (codeAt [.r, .r, .l, .r, .b] (bodyOf Try.f20)) [0, 1, 5] l H0 (qAt Try.prog base 26 privityref06_SameList.ann [.r, .r, .l, .r, .b] [] (bodyOf Try.f20) (retQ Try.prog 26 Try.f20 K))
def privityref06_SameList.sh (base : Nat) (Ax0 : Option Addr) (lx0 cx0 : Nat) (Ax1 : Option Addr) (lx1 cx1 : Nat) (H0 : HH) (K : Value → HH → Prop) : Prop :=
 if ((((lx0 : Nat) : Int) : Int) != (((lx1 : Nat) : Int))) = true then
 K (.bool false) H0
 else
 privityref06_SameList.P0 base [(.slice Ax0 lx0 cx0), (.slice Ax1 lx1 cx1), (.int .i64 0)] H0 K
theorem privityref06_SameList.spec {base : Nat} {Ax0 : Option Addr} {lx0 cx0 : Nat} {Ax1 : Option Addr} {lx1 cx1 : Nat} {H0 : HH} {K : Value → HH → Prop} (h : privityref06_SameList.sh base Ax0 lx0 cx0 Ax1 lx1 cx1 H0 K) : HCall Try.prog base 20 #[(.slice Ax0 lx0 cx0), (.slice Ax1 lx1 cx1)] H0 K := spec_of_wpC (n := 26) (ann := privityref06_SameList.ann) mix Try.func20 (by kernel_rfl) (cast (show privityref06_SameList.sh base Ax0 lx0 cx0 Ax1 lx1 cx1 H0 K = wpC Try.prog base 26 privityref06_SameList.ann (bodyOf Try.f20) (ofL [(.slice Ax0 lx0 cx0), (.slice Ax1 lx1 cx1)]) H0 (retQ Try.prog 26 Try.f20 K) by kernel_rfl) h)
def privityref06_SameList.B0 (base : Nat) (Ax0 : Option Addr) (lx0 cx0 : Nat) (Ax1 : Option Addr) (lx1 cx1 : Nat) (y5 : Int) (g : Fr) (N0 : Value → HH → Prop) (H0 : HH) (K : Value → HH → Prop) : Prop :=
 if (decide ((y5 : Int) < (((lx0 : Nat) : Int)))) = true then
 ∃ a1 : Addr, AQ Try.prog (Instr.indexAt 23 (.slice Ax0 lx0 cx0) (.int .i64 y5)) (.pointer ((some a1))) ∧
 ∃ n2 : Int, QRun Try.prog (Instr.loadAt 22 (.pointer ((some a1)))) H0 (.int .u64 n2) ∧
 ∃ a3 : Addr, AQ Try.prog (Instr.indexAt 23 (.slice Ax1 lx1 cx1) (.int .i64 y5)) (.pointer ((some a3))) ∧
 ∃ n4 : Int, QRun Try.prog (Instr.loadAt 22 (.pointer ((some a3)))) H0 (.int .u64 n4) ∧
 if ((n2 : Int) != n4) = true then
 K (.bool false) H0
 else
 N0 (.int .i64 ((IntKind.i64.wrap (y5 + 1)))) H0
 else
 K (.bool true) H0
theorem privityref06_SameList.loop0 {base : Nat} {Ax0 : Option Addr} {lx0 cx0 : Nat} {Ax1 : Option Addr} {lx1 cx1 : Nat} {y5_i : Int} {H0 : HH} {K : Value → HH → Prop} (J : Nat → Int → HH → Prop) (n : Nat) (h0 : J n y5_i H0)
    (hs : ∀ (n : Nat) (y5 : Int) (g : Fr) (H0 : HH), J n y5 H0 → privityref06_SameList.B0 base Ax0 lx0 cx0 Ax1 lx1 cx1 y5 g (fun w5 H => ∃ n', n' < n ∧ ∃ (y5' : Int), w5 = (.int .i64 y5') ∧ J n' y5' H) H0 K) : privityref06_SameList.P0 base [(.slice Ax0 lx0 cx0), (.slice Ax1 lx1 cx1), (.int .i64 y5_i)] H0 K := by
  refine loop_rule (ann := privityref06_SameList.ann) (body := codeAt [.r, .r, .l, .r, .b, .lp] (bodyOf Try.f20)) mix (by kernel_rfl) 67106864 (by kernel_rfl) [0, 1] [(.slice Ax0 lx0 cx0), (.slice Ax1 lx1 cx1)] (by kernel_rfl) (fun fr ⟨e0, e1, e5, _⟩ => ⟨e0, e1, trivial⟩) (fun n g H => ∃ (y5 : Int), g 5 = (.int .i64 y5) ∧ J n y5 H) n (fun fr ⟨e0, e1, e5, _⟩ => ⟨y5_i, e5, h0⟩) ?_
  rintro n g H0 ⟨e0, e1, _⟩ ⟨y5, e5, hJ⟩
  rw [← ov_eq (g := g) [(0, (.slice Ax0 lx0 cx0)), (1, (.slice Ax1 lx1 cx1)), (5, (.int .i64 y5))] (by simp only [List.mem_cons, List.not_mem_nil, or_false, forall_eq_or_imp, forall_eq, false_implies, implies_true]; exact ⟨e0, e1, e5⟩)]
  have key : ∀ NN : Value → HH → Prop, privityref06_SameList.B0 base Ax0 lx0 cx0 Ax1 lx1 cx1 y5 g NN H0 K = wpC Try.prog base 26 privityref06_SameList.ann (codeAt [.r, .r, .l, .r, .b, .lp] (bodyOf Try.f20)) (ov g [(0, (.slice Ax0 lx0 cx0)), (1, (.slice Ax1 lx1 cx1)), (5, (.int .i64 y5))]) H0 (thenQ (fun fr H => NN (fr 5) H) (qAt Try.prog base 26 privityref06_SameList.ann [.r, .r, .l, .r, .b] [] (bodyOf Try.f20) (retQ Try.prog 26 Try.f20 K))) := fun NN => by kernel_rfl
  refine cast ?_ (hs n y5 g H0 hJ)
  refine (key (fun w5 H => ∃ n', n' < n ∧ ∃ (y5' : Int), w5 = (.int .i64 y5') ∧ J n' y5' H)).trans ?_
  kernel_rfl
def privityref06_Below.ann : Ann := ⟨fun k => [], fun k => bif Nat.beq k 6 then true else false, fun k => bif Nat.beq k 2 then [0, 1, 2, 7] else bif Nat.beq k 6 then [1, 2] else []⟩
def privityref06_Below.P0 (base : Nat) (l : List Value) (H0 : HH) (K : Value → HH → Prop) : Prop := HCodeL Try.prog base 29 (codeAt [.r, .l, .r, .b] (bodyOf Try.f26)) [0, 1, 2, 7] l H0 (qAt Try.prog base 29 privityref06_Below.ann [.r, .l, .r, .b] [] (bodyOf Try.f26) (retQ Try.prog 29 Try.f26 K))
def privityref06_Below.R0 (base : Nat) (l : List Value) (H0 : HH) (K : Value → HH → Prop) : Prop := HCodeL Try.prog base 29 (codeAt [.r, .r] (bodyOf Try.f26)) [1, 2] l H0 (qAt Try.prog base 29 privityref06_Below.ann [.r, .r] [] (bodyOf Try.f26) (retQ Try.prog 29 Try.f26 K))
def privityref06_Below.S0 (base : Nat) (Ax1 : Option Addr) (lx1 cx1 : Nat) (x2 : Int) (H0 : HH) (K : Value → HH → Prop) : Prop :=
 K (.bool ((decide ((((lx1 : Nat) : Int) : Int) ≤ x2)))) H0
theorem privityref06_Below.rest0 {base : Nat} {Ax1 : Option Addr} {lx1 cx1 : Nat} {x2 : Int} {H0 : HH} {K : Value → HH → Prop} (h : privityref06_Below.S0 base Ax1 lx1 cx1 x2 H0 K) : privityref06_Below.R0 base [(.slice Ax1 lx1 cx1), (.int .i64 x2)] H0 K := by
  refine wpCL_sound (ann := privityref06_Below.ann) mix (fun fr ⟨e1, e2, _⟩ => ?_)
  rw [← ov_eq (g := fr) [(1, (.slice Ax1 lx1 cx1)), (2, (.int .i64 x2))] (by simp only [List.mem_cons, List.not_mem_nil, or_false, forall_eq_or_imp, forall_eq, false_implies, implies_true]; exact ⟨e1, e2⟩)]
  exact cast (show privityref06_Below.S0 base Ax1 lx1 cx1 x2 H0 K = wpC Try.prog base 29 privityref06_Below.ann (codeAt [.r, .r] (bodyOf Try.f26)) (ov fr [(1, (.slice Ax1 lx1 cx1)), (2, (.int .i64 x2))]) H0 (qAt Try.prog base 29 privityref06_Below.ann [.r, .r] [] (bodyOf Try.f26) (retQ Try.prog 29 Try.f26 K)) by kernel_rfl) h
def privityref06_Below.sh (base : Nat) (x0 : Int) (Ax1 : Option Addr) (lx1 cx1 : Nat) (x2 : Int) (H0 : HH) (K : Value → HH → Prop) : Prop :=
 privityref06_Below.P0 base [(.int .u64 x0), (.slice Ax1 lx1 cx1), (.int .i64 x2), (.int .i64 0)] H0 K
theorem privityref06_Below.spec {base : Nat} {x0 : Int} {Ax1 : Option Addr} {lx1 cx1 : Nat} {x2 : Int} {H0 : HH} {K : Value → HH → Prop} (h : privityref06_Below.sh base x0 Ax1 lx1 cx1 x2 H0 K) : HCall Try.prog base 26 #[(.int .u64 x0), (.slice Ax1 lx1 cx1), (.int .i64 x2)] H0 K := spec_of_wpC (n := 29) (ann := privityref06_Below.ann) mix Try.func26 (by kernel_rfl) (cast (show privityref06_Below.sh base x0 Ax1 lx1 cx1 x2 H0 K = wpC Try.prog base 29 privityref06_Below.ann (bodyOf Try.f26) (ofL [(.int .u64 x0), (.slice Ax1 lx1 cx1), (.int .i64 x2)]) H0 (retQ Try.prog 29 Try.f26 K) by kernel_rfl) h)
def privityref06_Below.B0 (base : Nat) (x0 : Int) (Ax1 : Option Addr) (lx1 cx1 : Nat) (x2 : Int) (y7 : Int) (g : Fr) (N0 : Value → HH → Prop) (H0 : HH) (K : Value → HH → Prop) : Prop :=
 if (decide ((y7 : Int) < (((lx1 : Nat) : Int)))) = true then
 if (decide ((y7 : Int) ≤ x2)) = true then
 ∃ a1 : Addr, AQ Try.prog (Instr.indexAt 23 (.slice Ax1 lx1 cx1) (.int .i64 y7)) (.pointer ((some a1))) ∧
 ∃ n2 : Int, QRun Try.prog (Instr.loadAt 22 (.pointer ((some a1)))) H0 (.int .u64 n2) ∧
 if (decide ((n2 : Int) ≥ x0)) = true then
 K (.bool false) H0
 else
 N0 (.int .i64 ((IntKind.i64.wrap (y7 + 1)))) H0
 else
 privityref06_Below.R0 base [(.slice Ax1 lx1 cx1), (.int .i64 x2)] H0 K
 else
 privityref06_Below.R0 base [(.slice Ax1 lx1 cx1), (.int .i64 x2)] H0 K
theorem privityref06_Below.loop0 {base : Nat} {x0 : Int} {Ax1 : Option Addr} {lx1 cx1 : Nat} {x2 y7_i : Int} {H0 : HH} {K : Value → HH → Prop} (J : Nat → Int → HH → Prop) (n : Nat) (h0 : J n y7_i H0)
    (hs : ∀ (n : Nat) (y7 : Int) (g : Fr) (H0 : HH), J n y7 H0 → privityref06_Below.B0 base x0 Ax1 lx1 cx1 x2 y7 g (fun w7 H => ∃ n', n' < n ∧ ∃ (y7' : Int), w7 = (.int .i64 y7') ∧ J n' y7' H) H0 K) : privityref06_Below.P0 base [(.int .u64 x0), (.slice Ax1 lx1 cx1), (.int .i64 x2), (.int .i64 y7_i)] H0 K := by
  refine loop_rule (ann := privityref06_Below.ann) (body := codeAt [.r, .l, .r, .b, .lp] (bodyOf Try.f26)) mix (by kernel_rfl) 33554368 (by kernel_rfl) [0, 1, 2] [(.int .u64 x0), (.slice Ax1 lx1 cx1), (.int .i64 x2)] (by kernel_rfl) (fun fr ⟨e0, e1, e2, e7, _⟩ => ⟨e0, e1, e2, trivial⟩) (fun n g H => ∃ (y7 : Int), g 7 = (.int .i64 y7) ∧ J n y7 H) n (fun fr ⟨e0, e1, e2, e7, _⟩ => ⟨y7_i, e7, h0⟩) ?_
  rintro n g H0 ⟨e0, e1, e2, _⟩ ⟨y7, e7, hJ⟩
  rw [← ov_eq (g := g) [(0, (.int .u64 x0)), (1, (.slice Ax1 lx1 cx1)), (2, (.int .i64 x2)), (7, (.int .i64 y7))] (by simp only [List.mem_cons, List.not_mem_nil, or_false, forall_eq_or_imp, forall_eq, false_implies, implies_true]; exact ⟨e0, e1, e2, e7⟩)]
  have key : ∀ NN : Value → HH → Prop, privityref06_Below.B0 base x0 Ax1 lx1 cx1 x2 y7 g NN H0 K = wpC Try.prog base 29 privityref06_Below.ann (codeAt [.r, .l, .r, .b, .lp] (bodyOf Try.f26)) (ov g [(0, (.int .u64 x0)), (1, (.slice Ax1 lx1 cx1)), (2, (.int .i64 x2)), (7, (.int .i64 y7))]) H0 (thenQ (fun fr H => NN (fr 7) H) (qAt Try.prog base 29 privityref06_Below.ann [.r, .l, .r, .b] [] (bodyOf Try.f26) (retQ Try.prog 29 Try.f26 K))) := fun NN => by kernel_rfl
  refine cast ?_ (hs n y7 g H0 hJ)
  refine (key (fun w7 H => ∃ n', n' < n ∧ ∃ (y7' : Int), w7 = (.int .i64 y7') ∧ J n' y7' H)).trans ?_
  kernel_rfl
def privityref10_Unlike.ann : Ann := ⟨fun k => bif Nat.beq k 7 then [] else [], fun k => false, fun k => bif Nat.beq k 2 then [0, 3] else bif Nat.beq k 5 then [0, 3, 4] else []⟩
def privityref10_Unlike.P1 (base : Nat) (N0 : Value → HH → Prop) (l : List Value) (H0 : HH) (K : Value → HH → Prop) : Prop := HCodeL Try.prog base 25 (codeAt [.r, .l, .r, .b, .lp, .r, .l, .b, .r, .b] (bodyOf Try.f27)) [0, 3, 4] l H0 (qAt Try.prog base 25 privityref10_Unlike.ann [.r, .l, .r, .b, .lp, .r, .l, .b, .r, .b] [fun fr H => N0 (fr 3) H] (bodyOf Try.f27) (retQ Try.prog 25 Try.f27 K))
def privityref10_Unlike.L1 (base : Nat) (N0 : Value → HH → Prop) (Ax0 : Option Addr) (lx0 cx0 : Nat) (x3 : Int) (y4 : Int) (H0 : HH) (K : Value → HH → Prop) : Prop := privityref10_Unlike.P1 base N0 [(.slice Ax0 lx0 cx0), (.int .i64 x3), (.int .i64 y4)] H0 K
def privityref10_Unlike.B1 (base : Nat) (N0 : Value → HH → Prop) (Ax0 : Option Addr) (lx0 cx0 : Nat) (x3 : Int) (y4 : Int) (g : Fr) (N1 : Value → HH → Prop) (H0 : HH) (K : Value → HH → Prop) : Prop :=
 if (decide ((y4 : Int) < x3)) = true then
 ∃ a1 : Addr, AQ Try.prog (Instr.indexAt 23 (.slice Ax0 lx0 cx0) (.int .i64 x3)) (.pointer ((some a1))) ∧
 ∃ n2 : Int, QRun Try.prog (Instr.loadAt 22 (.pointer ((some a1)))) H0 (.int .u64 n2) ∧
 ∃ a3 : Addr, AQ Try.prog (Instr.indexAt 23 (.slice Ax0 lx0 cx0) (.int .i64 y4)) (.pointer ((some a3))) ∧
 ∃ n4 : Int, QRun Try.prog (Instr.loadAt 22 (.pointer ((some a3)))) H0 (.int .u64 n4) ∧
 if ((n2 : Int) == n4) = true then
 K (.bool false) H0
 else
 N1 (.int .i64 ((IntKind.i64.wrap (y4 + 1)))) H0
 else
 N0 (.int .i64 ((IntKind.i64.wrap (x3 + 1)))) H0
def privityref10_Vanish.ann : Ann := ⟨fun k => bif Nat.beq k 12 then [18] else [], fun k => false, fun k => bif Nat.beq k 3 then [0, 1, 5, 6] else bif Nat.beq k 10 then [0, 1, 5, 6, 9, 10, 11] else []⟩
def privityref10_Vanish.P1 (base : Nat) (N0 : Value → Value → HH → Prop) (l : List Value) (H0 : HH) (K : Value → HH → Prop) : Prop := HCodeL Try.prog base 63 (codeAt [.r, .r, .l, .r, .b, .lp, .r, .l, .b, .r, .r, .r, .r, .l, .r, .b] (bodyOf Try.f28)) [0, 1, 5, 6, 9, 10, 11] l H0 (qAt Try.prog base 63 privityref10_Vanish.ann [.r, .r, .l, .r, .b, .lp, .r, .l, .b, .r, .r, .r, .r, .l, .r, .b] [fun fr H => N0 (fr 5) (fr 6) H] (bodyOf Try.f28) (retQ Try.prog 63 Try.f28 K))
def privityref10_Vanish.L1 (base : Nat) (N0 : Value → Value → HH → Prop) (x0 : Int) (Ax1 : Option Addr) (lx1 cx1 : Nat) (Ax5 : Option Addr) (lx5 cx5 : Nat) (x6 x9 : Int) (Ax10 : Option Addr) (lx10 cx10 : Nat) (y11 : Int) (H0 : HH) (K : Value → HH → Prop) : Prop := privityref10_Vanish.P1 base N0 [(.int .u64 x0), (.slice Ax1 lx1 cx1), (.slice Ax5 lx5 cx5), (.int .i64 x6), (.int .u64 x9), (.slice Ax10 lx10 cx10), (.int .i64 y11)] H0 K
def privityref10_Vanish.B1 (base : Nat) (N0 : Value → Value → HH → Prop) (x0 : Int) (Ax1 : Option Addr) (lx1 cx1 : Nat) (Ax5 : Option Addr) (lx5 cx5 : Nat) (x6 x9 : Int) (Ax10 : Option Addr) (lx10 cx10 : Nat) (y11 : Int) (g : Fr) (N1 : Value → HH → Prop) (H0 : HH) (K : Value → HH → Prop) : Prop :=
 if (decide ((y11 : Int) < (((lx5 : Nat) : Int)))) = true then
 ∃ a25 : Addr, AQ Try.prog (Instr.indexAt 23 (.slice Ax10 lx10 cx10) (.int .i64 ((IntKind.i64.wrap (y11 + 1))))) (.pointer ((some a25))) ∧
 ∃ n26 : Int, QRun Try.prog (Instr.loadAt 22 (.pointer ((some a25)))) H0 (.int .u64 n26) ∧
 ∃ a27 : Addr, AQ Try.prog (Instr.indexAt 23 (.slice Ax5 lx5 cx5) (.int .i64 y11)) (.pointer ((some a27))) ∧
 ∃ n28 : Int, QRun Try.prog (Instr.loadAt 22 (.pointer ((some a27)))) H0 (.int .u64 n28) ∧
 ∃ n29 : Int, HCall Try.prog base 58 #[(.int .u64 x0), (.int .u64 x9), (.int .u64 n28)] H0 (fun v_ H_ => v_ = (.int .u64 n29) ∧ H_ = H0) ∧
 ∃ n30 : Int, HCall Try.prog base 57 #[(.int .u64 x0), (.int .u64 n26), (.int .u64 n29)] H0 (fun v_ H_ => v_ = (.int .u64 n30) ∧ H_ = H0) ∧
 ∃ a31 : Addr, AQ Try.prog (Instr.indexAt 23 (.slice Ax10 lx10 cx10) (.int .i64 ((IntKind.i64.wrap (y11 + 1))))) (.pointer ((some a31))) ∧
 HRun Try.prog base (Instr.storeAt 22 (.pointer ((some a31))) (.int .u64 n30)) H0 fun _ H32 =>
 N1 (.int .i64 ((IntKind.i64.wrap (y11 + 1)))) H32
 else
 N0 (.slice Ax10 lx10 cx10) (.int .i64 ((IntKind.i64.wrap (x6 + 1)))) H0
def productproof_Verify.ann : Ann := ⟨fun k => [], fun k => false, fun k => bif Nat.beq k 3 then [0, 1, 5, 13, 14, 24, 25, 26] else []⟩
def productproof_Verify.P0 (base : Nat) (l : List Value) (H0 : HH) (K : Value → HH → Prop) : Prop := HCodeL Try.prog base 45 (codeAt [.r, .r, .l, .r, .b] (bodyOf Try.f22)) [0, 1, 5, 13, 14, 24, 25, 26] l H0 (qAt Try.prog base 45 productproof_Verify.ann [.r, .r, .l, .r, .b] [] (bodyOf Try.f22) (retQ Try.prog 45 Try.f22 K))
def productproof_Verify.sh (base : Nat) (x0 : Int) (x1 : Int) (x2 : Int) (x3 : Int) (Ax4 : Option Addr) (lx4 cx4 : Nat) (x5 : Int) (H0 : HH) (K : Value → HH → Prop) : Prop :=
 HCall Try.prog base 21 #[(.int .u64 x0), (.int .u64 x2), (.int .u64 x3)] H0 fun v1 H2 =>
 ∃ n3 : Int, v1 = (.int .u64 n3) ∧ HCall Try.prog base 54 #[(.int .u64 x0), (.int .u64 x1)] H2 fun v4 H5 =>
 ∃ n6 : Int, v4 = (.int .u64 n6) ∧ productproof_Verify.P0 base [(.int .u64 x0), (.int .u64 x1), (.int .u64 x5), (.int .u64 n3), (.int .u64 n6), (.slice Ax4 lx4 cx4), (.int .i64 (((lx4 : Nat) : Int))), (.int .i64 0)] H5 K
theorem productproof_Verify.spec {base : Nat} {x0 : Int} {x1 : Int} {x2 : Int} {x3 : Int} {Ax4 : Option Addr} {lx4 cx4 : Nat} {x5 : Int} {H0 : HH} {K : Value → HH → Prop} (h : productproof_Verify.sh base x0 x1 x2 x3 Ax4 lx4 cx4 x5 H0 K) : HCall Try.prog base 22 #[(.int .u64 x0), (.int .u64 x1), (.int .u64 x2), (.int .u64 x3), (.slice Ax4 lx4 cx4), (.int .u64 x5)] H0 K := spec_of_wpC (n := 45) (ann := productproof_Verify.ann) mix Try.func22 (by kernel_rfl) (cast (show productproof_Verify.sh base x0 x1 x2 x3 Ax4 lx4 cx4 x5 H0 K = wpC Try.prog base 45 productproof_Verify.ann (bodyOf Try.f22) (ofL [(.int .u64 x0), (.int .u64 x1), (.int .u64 x2), (.int .u64 x3), (.slice Ax4 lx4 cx4), (.int .u64 x5)]) H0 (retQ Try.prog 45 Try.f22 K) by kernel_rfl) h)
def productproof_Verify.B0 (base : Nat) (x0 x1 x5 : Int) (Ax24 : Option Addr) (lx24 cx24 : Nat) (x25 : Int) (y13 : Int) (y14 : Int) (y26 : Int) (g : Fr) (N0 : Value → Value → Value → HH → Prop) (H0 : HH) (K : Value → HH → Prop) : Prop :=
 if (decide ((y26 : Int) < x25)) = true then
 ∃ a7 : Addr, AQ Try.prog (Instr.indexAt 23 (.slice Ax24 lx24 cx24) (.int .i64 y26)) (.pointer ((some a7))) ∧
 ∃ n8 : Int, QRun Try.prog (Instr.loadAt 22 (.pointer ((some a7)))) H0 (.int .u64 n8) ∧
 HCall Try.prog base 21 #[(.int .u64 x0), (.int .u64 y14), (.int .u64 n8)] H0 fun v9 H10 =>
 ∃ n11 : Int, v9 = (.int .u64 n11) ∧ HCall Try.prog base 39 #[(.int .u64 x0), (.int .u64 y13), (.int .u64 n11)] H10 fun v12 H13 =>
 ∃ n14 : Int, v12 = (.int .u64 n14) ∧ HCall Try.prog base 21 #[(.int .u64 x0), (.int .u64 y14), (.int .u64 x1)] H13 fun v15 H16 =>
 ∃ n17 : Int, v15 = (.int .u64 n17) ∧ N0 (.int .u64 n14) (.int .u64 n17) (.int .i64 ((IntKind.i64.wrap (y26 + 1)))) H16
 else
 K (.bool (((y13 : Int) == x5))) H0
theorem productproof_Verify.loop0 {base : Nat} {x0 x1 x5 : Int} {Ax24 : Option Addr} {lx24 cx24 : Nat} {x25 y13_i y14_i y26_i : Int} {H0 : HH} {K : Value → HH → Prop} (J : Nat → Int → Int → Int → HH → Prop) (n : Nat) (h0 : J n y13_i y14_i y26_i H0)
    (hs : ∀ (n : Nat) (y13 : Int) (y14 : Int) (y26 : Int) (g : Fr) (H0 : HH), J n y13 y14 y26 H0 → productproof_Verify.B0 base x0 x1 x5 Ax24 lx24 cx24 x25 y13 y14 y26 g (fun w13 w14 w26 H => ∃ n', n' < n ∧ ∃ (y13' : Int) (y14' : Int) (y26' : Int), w13 = (.int .u64 y13') ∧ w14 = (.int .u64 y14') ∧ w26 = (.int .i64 y26') ∧ J n' y13' y14' y26' H) H0 K) : productproof_Verify.P0 base [(.int .u64 x0), (.int .u64 x1), (.int .u64 x5), (.int .u64 y13_i), (.int .u64 y14_i), (.slice Ax24 lx24 cx24), (.int .i64 x25), (.int .i64 y26_i)] H0 K := by
  refine loop_rule (ann := productproof_Verify.ann) (body := codeAt [.r, .r, .l, .r, .b, .lp] (bodyOf Try.f22)) mix (by kernel_rfl) 4397979492352 (by kernel_rfl) [0, 1, 5, 24, 25] [(.int .u64 x0), (.int .u64 x1), (.int .u64 x5), (.slice Ax24 lx24 cx24), (.int .i64 x25)] (by kernel_rfl) (fun fr ⟨e0, e1, e5, e13, e14, e24, e25, e26, _⟩ => ⟨e0, e1, e5, e24, e25, trivial⟩) (fun n g H => ∃ (y13 : Int) (y14 : Int) (y26 : Int), g 13 = (.int .u64 y13) ∧ g 14 = (.int .u64 y14) ∧ g 26 = (.int .i64 y26) ∧ J n y13 y14 y26 H) n (fun fr ⟨e0, e1, e5, e13, e14, e24, e25, e26, _⟩ => ⟨y13_i, y14_i, y26_i, e13, e14, e26, h0⟩) ?_
  rintro n g H0 ⟨e0, e1, e5, e24, e25, _⟩ ⟨y13, y14, y26, e13, e14, e26, hJ⟩
  rw [← ov_eq (g := g) [(0, (.int .u64 x0)), (1, (.int .u64 x1)), (5, (.int .u64 x5)), (13, (.int .u64 y13)), (14, (.int .u64 y14)), (24, (.slice Ax24 lx24 cx24)), (25, (.int .i64 x25)), (26, (.int .i64 y26))] (by simp only [List.mem_cons, List.not_mem_nil, or_false, forall_eq_or_imp, forall_eq, false_implies, implies_true]; exact ⟨e0, e1, e5, e13, e14, e24, e25, e26⟩)]
  have key : ∀ NN : Value → Value → Value → HH → Prop, productproof_Verify.B0 base x0 x1 x5 Ax24 lx24 cx24 x25 y13 y14 y26 g NN H0 K = wpC Try.prog base 45 productproof_Verify.ann (codeAt [.r, .r, .l, .r, .b, .lp] (bodyOf Try.f22)) (ov g [(0, (.int .u64 x0)), (1, (.int .u64 x1)), (5, (.int .u64 x5)), (13, (.int .u64 y13)), (14, (.int .u64 y14)), (24, (.slice Ax24 lx24 cx24)), (25, (.int .i64 x25)), (26, (.int .i64 y26))]) H0 (thenQ (fun fr H => NN (fr 13) (fr 14) (fr 26) H) (qAt Try.prog base 45 productproof_Verify.ann [.r, .r, .l, .r, .b] [] (bodyOf Try.f22) (retQ Try.prog 45 Try.f22 K))) := fun NN => by kernel_rfl
  refine cast ?_ (hs n y13 y14 y26 g H0 hJ)
  refine (key (fun w13 w14 w26 H => ∃ n', n' < n ∧ ∃ (y13' : Int) (y14' : Int) (y26' : Int), w13 = (.int .u64 y13') ∧ w14 = (.int .u64 y14') ∧ w26 = (.int .i64 y26') ∧ J n' y13' y14' y26' H)).trans ?_
  kernel_rfl
def privityref21_Mul.ann : Ann := ⟨fun k => bif Nat.beq k 8 then [23] else [], fun k => false, fun k => bif Nat.beq k 3 then [0, 1, 2, 7, 8] else bif Nat.beq k 6 then [0, 1, 2, 7, 8, 9] else []⟩
def privityref21_Mul.P1 (base : Nat) (N0 : Value → HH → Prop) (l : List Value) (H0 : HH) (K : Value → HH → Prop) : Prop := HCodeL Try.prog base 53 (codeAt [.r, .r, .l, .r, .b, .lp, .r, .l, .b, .r, .b] (bodyOf Try.f50)) [0, 1, 2, 7, 8, 9] l H0 (qAt Try.prog base 53 privityref21_Mul.ann [.r, .r, .l, .r, .b, .lp, .r, .l, .b, .r, .b] [fun fr H => N0 (fr 8) H] (bodyOf Try.f50) (retQ Try.prog 53 Try.f50 K))
def privityref21_Mul.L1 (base : Nat) (N0 : Value → HH → Prop) (x0 : Int) (Ax1 : Option Addr) (lx1 cx1 : Nat) (Ax2 : Option Addr) (lx2 cx2 : Nat) (Ax7 : Option Addr) (lx7 cx7 : Nat) (x8 : Int) (y9 : Int) (H0 : HH) (K : Value → HH → Prop) : Prop := privityref21_Mul.P1 base N0 [(.int .u64 x0), (.slice Ax1 lx1 cx1), (.slice Ax2 lx2 cx2), (.slice Ax7 lx7 cx7), (.int .i64 x8), (.int .i64 y9)] H0 K
def privityref21_Mul.B1 (base : Nat) (N0 : Value → HH → Prop) (x0 : Int) (Ax1 : Option Addr) (lx1 cx1 : Nat) (Ax2 : Option Addr) (lx2 cx2 : Nat) (Ax7 : Option Addr) (lx7 cx7 : Nat) (x8 : Int) (y9 : Int) (g : Fr) (N1 : Value → HH → Prop) (H0 : HH) (K : Value → HH → Prop) : Prop :=
 if (decide ((y9 : Int) < (((lx2 : Nat) : Int)))) = true then
 ∃ a4 : Addr, AQ Try.prog (Instr.indexAt 23 (.slice Ax7 lx7 cx7) (.int .i64 ((IntKind.i64.wrap (x8 + y9))))) (.pointer ((some a4))) ∧
 ∃ n5 : Int, QRun Try.prog (Instr.loadAt 22 (.pointer ((some a4)))) H0 (.int .u64 n5) ∧
 ∃ a6 : Addr, AQ Try.prog (Instr.indexAt 23 (.slice Ax1 lx1 cx1) (.int .i64 x8)) (.pointer ((some a6))) ∧
 ∃ n7 : Int, QRun Try.prog (Instr.loadAt 22 (.pointer ((some a6)))) H0 (.int .u64 n7) ∧
 ∃ a8 : Addr, AQ Try.prog (Instr.indexAt 23 (.slice Ax2 lx2 cx2) (.int .i64 y9)) (.pointer ((some a8))) ∧
 ∃ n9 : Int, QRun Try.prog (Instr.loadAt 22 (.pointer ((some a8)))) H0 (.int .u64 n9) ∧
 ∃ n10 : Int, HCall Try.prog base 58 #[(.int .u64 x0), (.int .u64 n7), (.int .u64 n9)] H0 (fun v_ H_ => v_ = (.int .u64 n10) ∧ H_ = H0) ∧
 ∃ n11 : Int, HCall Try.prog base 57 #[(.int .u64 x0), (.int .u64 n5), (.int .u64 n10)] H0 (fun v_ H_ => v_ = (.int .u64 n11) ∧ H_ = H0) ∧
 ∃ a12 : Addr, AQ Try.prog (Instr.indexAt 23 (.slice Ax7 lx7 cx7) (.int .i64 ((IntKind.i64.wrap (x8 + y9))))) (.pointer ((some a12))) ∧
 HRun Try.prog base (Instr.storeAt 22 (.pointer ((some a12))) (.int .u64 n11)) H0 fun _ H13 =>
 N1 (.int .i64 ((IntKind.i64.wrap (y9 + 1)))) H13
 else
 N0 (.int .i64 ((IntKind.i64.wrap (x8 + 1)))) H0
def privityref21_Prove.ann : Ann := ⟨fun k => bif Nat.beq k 11 then [13] else bif Nat.beq k 15 then [21] else bif Nat.beq k 16 then [] else [], fun k => false, fun k => bif Nat.beq k 4 then [0, 1, 4, 12, 13, 14] else bif Nat.beq k 9 then [0, 1, 12, 13, 16] else bif Nat.beq k 13 then [0, 1, 12, 13, 16, 17] else []⟩
def privityref21_Prove.P1 (base : Nat) (l : List Value) (H0 : HH) (K : Value → HH → Prop) : Prop := HCodeL Try.prog base 93 (codeAt [.r, .r, .r, .r, .l, .r, .b] (bodyOf Try.f18)) [0, 1, 12, 13, 16] l H0 (qAt Try.prog base 93 privityref21_Prove.ann [.r, .r, .r, .r, .l, .r, .b] [] (bodyOf Try.f18) (retQ Try.prog 93 Try.f18 K))
def privityref21_Prove.P2 (base : Nat) (N1 : Value → HH → Prop) (l : List Value) (H0 : HH) (K : Value → HH → Prop) : Prop := HCodeL Try.prog base 93 (codeAt [.r, .r, .r, .r, .l, .r, .b, .lp, .r, .l, .b, .r, .r, .b] (bodyOf Try.f18)) [0, 1, 12, 13, 16, 17] l H0 (qAt Try.prog base 93 privityref21_Prove.ann [.r, .r, .r, .r, .l, .r, .b, .lp, .r, .l, .b, .r, .r, .b] [fun fr H => N1 (fr 16) H] (bodyOf Try.f18) (retQ Try.prog 93 Try.f18 K))
def privityref21_Prove.L1 (base : Nat) (x0 x1 : Int) (Ax12 : Option Addr) (lx12 cx12 : Nat) (Ax13 : Option Addr) (lx13 cx13 : Nat) (y16 : Int) (H0 : HH) (K : Value → HH → Prop) : Prop := privityref21_Prove.P1 base [(.int .u64 x0), (.int .i64 x1), (.slice Ax12 lx12 cx12), (.slice Ax13 lx13 cx13), (.int .i64 y16)] H0 K
def privityref21_Prove.L2 (base : Nat) (N1 : Value → HH → Prop) (x0 x1 : Int) (Ax12 : Option Addr) (lx12 cx12 : Nat) (Ax13 : Option Addr) (lx13 cx13 : Nat) (x16 : Int) (y17 : Int) (H0 : HH) (K : Value → HH → Prop) : Prop := privityref21_Prove.P2 base N1 [(.int .u64 x0), (.int .i64 x1), (.slice Ax12 lx12 cx12), (.slice Ax13 lx13 cx13), (.int .i64 x16), (.int .i64 y17)] H0 K
def privityref21_Prove.B1 (base : Nat) (x0 x1 : Int) (Ax12 : Option Addr) (lx12 cx12 : Nat) (Ax13 : Option Addr) (lx13 cx13 : Nat) (y16 : Int) (g : Fr) (N1 : Value → HH → Prop) (H0 : HH) (K : Value → HH → Prop) : Prop :=
 if (decide ((y16 : Int) ≥ 1)) = true then
 ∃ a23 : Addr, AQ Try.prog (Instr.indexAt 28 (.slice Ax13 lx13 cx13) (.int .i64 ((IntKind.i64.wrap (y16 - 1))))) (.pointer ((some a23))) ∧
 ∃ (A24 : Option Addr) (l24 c24 : Nat), QRun Try.prog (Instr.loadAt 23 (.pointer ((some a23)))) H0 (.slice A24 l24 c24) ∧
 ∃ a25 : Addr, AQ Try.prog (Instr.indexAt 23 (.slice Ax12 lx12 cx12) (.int .i64 ((IntKind.i64.wrap (x1 + y16))))) (.pointer ((some a25))) ∧
 ∃ n26 : Int, QRun Try.prog (Instr.loadAt 22 (.pointer ((some a25)))) H0 (.int .u64 n26) ∧
 ∃ a27 : Addr, AQ Try.prog (Instr.indexAt 23 (.slice A24 l24 c24) (.int .i64 x1)) (.pointer ((some a27))) ∧
 HRun Try.prog base (Instr.storeAt 22 (.pointer ((some a27))) (.int .u64 n26)) H0 fun _ H28 =>
 privityref21_Prove.P2 base N1 [(.int .u64 x0), (.int .i64 x1), (.slice Ax12 lx12 cx12), (.slice Ax13 lx13 cx13), (.int .i64 y16), (.int .i64 0)] H28 K
 else
 ∃ (A29 : Option Addr) (l29 c29 : Nat), AQ Try.prog (Instr.sliceAt 23 (.slice Ax12 lx12 cx12) none (some (.int .i64 ((IntKind.i64.wrap (x1 + 1))))) none) (.slice A29 l29 c29) ∧
 K (.tuple #[(.slice Ax13 lx13 cx13), (.slice A29 l29 c29)]) H0
def privityref21_Prove.B2 (base : Nat) (N1 : Value → HH → Prop) (x0 x1 : Int) (Ax12 : Option Addr) (lx12 cx12 : Nat) (Ax13 : Option Addr) (lx13 cx13 : Nat) (x16 : Int) (y17 : Int) (g : Fr) (N2 : Value → HH → Prop) (H0 : HH) (K : Value → HH → Prop) : Prop :=
 if (decide ((y17 : Int) ≤ x1)) = true then
 ∃ a30 : Addr, AQ Try.prog (Instr.indexAt 23 (.slice Ax12 lx12 cx12) (.int .i64 ((IntKind.i64.wrap (x16 + y17))))) (.pointer ((some a30))) ∧
 ∃ n31 : Int, QRun Try.prog (Instr.loadAt 22 (.pointer ((some a30)))) H0 (.int .u64 n31) ∧
 ∃ a32 : Addr, AQ Try.prog (Instr.indexAt 28 (.slice Ax13 lx13 cx13) (.int .i64 ((IntKind.i64.wrap (x16 - 1))))) (.pointer ((some a32))) ∧
 ∃ (A33 : Option Addr) (l33 c33 : Nat), QRun Try.prog (Instr.loadAt 23 (.pointer ((some a32)))) H0 (.slice A33 l33 c33) ∧
 ∃ a34 : Addr, AQ Try.prog (Instr.indexAt 23 (.slice A33 l33 c33) (.int .i64 y17)) (.pointer ((some a34))) ∧
 ∃ n35 : Int, QRun Try.prog (Instr.loadAt 22 (.pointer ((some a34)))) H0 (.int .u64 n35) ∧
 ∃ n36 : Int, HCall Try.prog base 51 #[(.int .u64 x0), (.int .u64 n31), (.int .u64 n35)] H0 (fun v_ H_ => v_ = (.int .u64 n36) ∧ H_ = H0) ∧
 ∃ a37 : Addr, AQ Try.prog (Instr.indexAt 23 (.slice Ax12 lx12 cx12) (.int .i64 ((IntKind.i64.wrap (x16 + y17))))) (.pointer ((some a37))) ∧
 HRun Try.prog base (Instr.storeAt 22 (.pointer ((some a37))) (.int .u64 n36)) H0 fun _ H38 =>
 N2 (.int .i64 ((IntKind.i64.wrap (y17 + 1)))) H38
 else
 N1 (.int .i64 ((IntKind.i64.wrap (x16 - 1)))) H0
def privityref21_Verify.ann : Ann := ⟨fun k => [], fun k => false, fun k => bif Nat.beq k 4 then [0, 1, 4, 5, 13, 14, 15] else []⟩
def privityref21_Moved.ann : Ann := ⟨fun k => bif Nat.beq k 5 then [14, 15] else bif Nat.beq k 6 then [14, 15] else bif Nat.beq k 7 then [] else bif Nat.beq k 8 then [14, 15] else bif Nat.beq k 16 then [22, 23] else [], fun k => false, fun k => bif Nat.beq k 3 then [0, 1, 2, 3, 4, 5, 6, 7, 19, 20, 21, 22] else bif Nat.beq k 11 then [0, 1, 4, 5, 19, 20, 21, 24, 25] else bif Nat.beq k 14 then [0, 1, 4, 5, 19, 20, 21, 24, 25, 26] else []⟩
def privityref21_Moved.P1 (base : Nat) (l : List Value) (H0 : HH) (K : Value → HH → Prop) : Prop := HCodeL Try.prog base 133 (codeAt [.r, .r, .r, .r, .l, .r, .b] (bodyOf Try.f29)) [0, 1, 4, 5, 19, 20, 21, 24, 25] l H0 (qAt Try.prog base 133 privityref21_Moved.ann [.r, .r, .r, .r, .l, .r, .b] [] (bodyOf Try.f29) (retQ Try.prog 133 Try.f29 K))
def privityref21_Moved.P2 (base : Nat) (N1 : Value → Value → HH → Prop) (l : List Value) (H0 : HH) (K : Value → HH → Prop) : Prop := HCodeL Try.prog base 133 (codeAt [.r, .r, .r, .r, .l, .r, .b, .lp, .r, .l, .b, .r, .b] (bodyOf Try.f29)) [0, 1, 4, 5, 19, 20, 21, 24, 25, 26] l H0 (qAt Try.prog base 133 privityref21_Moved.ann [.r, .r, .r, .r, .l, .r, .b, .lp, .r, .l, .b, .r, .b] [fun fr H => N1 (fr 24) (fr 25) H] (bodyOf Try.f29) (retQ Try.prog 133 Try.f29 K))
def privityref21_Moved.L1 (base : Nat) (x0 x1 : Int) (Ax4 : Option Addr) (lx4 cx4 : Nat) (Ax5 : Option Addr) (lx5 cx5 : Nat) (Ax19 : Option Addr) (lx19 cx19 : Nat) (Ax20 : Option Addr) (lx20 cx20 : Nat) (Ax21 : Option Addr) (lx21 cx21 : Nat) (Ay24 : Option Addr) (ly24 cy24 : Nat) (y25 : Int) (H0 : HH) (K : Value → HH → Prop) : Prop := privityref21_Moved.P1 base [(.int .u64 x0), (.int .i64 x1), (.slice Ax4 lx4 cx4), (.slice Ax5 lx5 cx5), (.slice Ax19 lx19 cx19), (.slice Ax20 lx20 cx20), (.slice Ax21 lx21 cx21), (.slice Ay24 ly24 cy24), (.int .i64 y25)] H0 K
def privityref21_Moved.L2 (base : Nat) (N1 : Value → Value → HH → Prop) (x0 x1 : Int) (Ax4 : Option Addr) (lx4 cx4 : Nat) (Ax5 : Option Addr) (lx5 cx5 : Nat) (Ax19 : Option Addr) (lx19 cx19 : Nat) (Ax20 : Option Addr) (lx20 cx20 : Nat) (Ax21 : Option Addr) (lx21 cx21 : Nat) (x25 : Int) (Ay24 : Option Addr) (ly24 cy24 : Nat) (y26 : Int) (H0 : HH) (K : Value → HH → Prop) : Prop := privityref21_Moved.P2 base N1 [(.int .u64 x0), (.int .i64 x1), (.slice Ax4 lx4 cx4), (.slice Ax5 lx5 cx5), (.slice Ax19 lx19 cx19), (.slice Ax20 lx20 cx20), (.slice Ax21 lx21 cx21), (.slice Ay24 ly24 cy24), (.int .i64 x25), (.int .i64 y26)] H0 K
def privityref21_Moved.B1 (base : Nat) (x0 x1 : Int) (Ax4 : Option Addr) (lx4 cx4 : Nat) (Ax5 : Option Addr) (lx5 cx5 : Nat) (Ax19 : Option Addr) (lx19 cx19 : Nat) (Ax20 : Option Addr) (lx20 cx20 : Nat) (Ax21 : Option Addr) (lx21 cx21 : Nat) (Ay24 : Option Addr) (ly24 cy24 : Nat) (y25 : Int) (g : Fr) (N1 : Value → Value → HH → Prop) (H0 : HH) (K : Value → HH → Prop) : Prop :=
 if (decide ((y25 : Int) ≤ x1)) = true then
 privityref21_Moved.P2 base N1 [(.int .u64 x0), (.int .i64 x1), (.slice Ax4 lx4 cx4), (.slice Ax5 lx5 cx5), (.slice Ax19 lx19 cx19), (.slice Ax20 lx20 cx20), (.slice Ax21 lx21 cx21), (.slice Ay24 ly24 cy24), (.int .i64 y25), (.int .i64 0)] H0 K
 else
 K (.tuple #[(.slice Ax20 lx20 cx20), (.slice Ax21 lx21 cx21), (.slice Ay24 ly24 cy24)]) H0
def privityref21_Moved.B2 (base : Nat) (N1 : Value → Value → HH → Prop) (x0 x1 : Int) (Ax4 : Option Addr) (lx4 cx4 : Nat) (Ax5 : Option Addr) (lx5 cx5 : Nat) (Ax19 : Option Addr) (lx19 cx19 : Nat) (Ax20 : Option Addr) (lx20 cx20 : Nat) (Ax21 : Option Addr) (lx21 cx21 : Nat) (x25 : Int) (Ay24 : Option Addr) (ly24 cy24 : Nat) (y26 : Int) (g : Fr) (N2 : Value → Value → HH → Prop) (H0 : HH) (K : Value → HH → Prop) : Prop :=
 if (decide ((y26 : Int) < x1)) = true then
 ∃ a43 : Addr, AQ Try.prog (Instr.indexAt 23 (.slice Ax4 lx4 cx4) (.int .i64 ((IntKind.i64.wrap (((IntKind.i64.wrap (((IntKind.i64.wrap (x25 - 1))) * x1))) + y26))))) (.pointer ((some a43))) ∧
 ∃ n44 : Int, QRun Try.prog (Instr.loadAt 22 (.pointer ((some a43)))) H0 (.int .u64 n44) ∧
 ∃ a45 : Addr, AQ Try.prog (Instr.indexAt 23 (.slice Ax19 lx19 cx19) (.int .i64 x25)) (.pointer ((some a45))) ∧
 ∃ n46 : Int, QRun Try.prog (Instr.loadAt 22 (.pointer ((some a45)))) H0 (.int .u64 n46) ∧
 ∃ a47 : Addr, AQ Try.prog (Instr.indexAt 23 (.slice Ax5 lx5 cx5) (.int .i64 y26)) (.pointer ((some a47))) ∧
 ∃ n48 : Int, QRun Try.prog (Instr.loadAt 22 (.pointer ((some a47)))) H0 (.int .u64 n48) ∧
 ∃ n49 : Int, HCall Try.prog base 58 #[(.int .u64 x0), (.int .u64 n46), (.int .u64 n48)] H0 (fun v_ H_ => v_ = (.int .u64 n49) ∧ H_ = H0) ∧
 ∃ n50 : Int, HCall Try.prog base 57 #[(.int .u64 x0), (.int .u64 n44), (.int .u64 n49)] H0 (fun v_ H_ => v_ = (.int .u64 n50) ∧ H_ = H0) ∧
 HRun Try.prog base (Instr.buildSlice 23 1 #[(0, (.int .u64 n50))]) H0 fun v51 H52 =>
 ∃ (A53 : Option Addr) (l53 c53 : Nat), v51 = (.slice A53 l53 c53) ∧ HRun Try.prog base (Builtin.append_ #[23, 23] 23 #[(.slice Ay24 ly24 cy24), (.slice A53 l53 c53)]) H52 fun v54 H55 =>
 ∃ (A56 : Option Addr) (l56 c56 : Nat), v54 = (.slice A56 l56 c56) ∧ N2 (.slice A56 l56 c56) (.int .i64 ((IntKind.i64.wrap (y26 + 1)))) H55
 else
 N1 (.slice Ay24 ly24 cy24) (.int .i64 ((IntKind.i64.wrap (x25 + 1)))) H0
def privitylaw21_awake.ann : Ann := ⟨fun k => [], fun k => false, fun k => []⟩
def privitylaw21_awake.sh (base : Nat)  (H0 : HH) (K : Value → HH → Prop) : Prop :=
 HRun Try.prog base (Instr.buildSlice 23 2 #[(0, (.int .u64 2)), (1, (.int .u64 3))]) H0 fun v1 H2 =>
 ∃ (A3 : Option Addr) (l3 c3 : Nat), v1 = (.slice A3 l3 c3) ∧ HRun Try.prog base (Instr.buildSlice 23 2 #[(0, (.int .u64 4)), (1, (.int .u64 5))]) H2 fun v4 H5 =>
 ∃ (A6 : Option Addr) (l6 c6 : Nat), v4 = (.slice A6 l6 c6) ∧ HRun Try.prog base (Instr.buildSlice 23 1 #[(0, (.int .u64 7))]) H5 fun v7 H8 =>
 ∃ (A9 : Option Addr) (l9 c9 : Nat), v7 = (.slice A9 l9 c9) ∧ HCall Try.prog base 17 #[(.int .u64 31), (.int .i64 1), (.slice A3 l3 c3), (.slice A6 l6 c6), (.slice A9 l9 c9)] H8 fun v10 H11 =>
 ∃ (A12 : Option Addr) (l12 c12 : Nat), ∃ (A13 : Option Addr) (l13 c13 : Nat), v10 = (.tuple #[(.slice A12 l12 c12), (.slice A13 l13 c13)]) ∧ HRun Try.prog base (Instr.buildSlice 23 2 #[(0, (.int .u64 7)), (1, (.int .u64 15))]) H11 fun v14 H15 =>
 ∃ (A16 : Option Addr) (l16 c16 : Nat), v14 = (.slice A16 l16 c16) ∧ HRun Try.prog base (Instr.buildSlice 28 1 #[(0, (.slice A16 l16 c16))]) H15 fun v17 H18 =>
 ∃ (A19 : Option Addr) (l19 c19 : Nat), v17 = (.slice A19 l19 c19) ∧ HCall Try.prog base 19 #[(.slice A12 l12 c12), (.slice A19 l19 c19)] H18 fun v20 H21 =>
 ∃ b22 : Bool, v20 = (.bool b22) ∧ if b22 = true then
 HRun Try.prog base (Instr.buildSlice 23 2 #[(0, (.int .u64 8)), (1, (.int .u64 15))]) H21 fun v23 H24 =>
 ∃ (A25 : Option Addr) (l25 c25 : Nat), v23 = (.slice A25 l25 c25) ∧ HCall Try.prog base 20 #[(.slice A13 l13 c13), (.slice A25 l25 c25)] H24 fun v26 H27 =>
 ∃ b28 : Bool, v26 = (.bool b28) ∧ if b28 = true then
 HRun Try.prog base (Instr.buildSlice 23 1 #[(0, (.int .u64 6))]) H27 fun v29 H30 =>
 ∃ (A31 : Option Addr) (l31 c31 : Nat), v29 = (.slice A31 l31 c31) ∧ HCall Try.prog base 22 #[(.int .u64 31), (.int .u64 2), (.int .u64 8), (.int .u64 14), (.slice A31 l31 c31), (.int .u64 7)] H30 fun v32 H33 =>
 ∃ b34 : Bool, v32 = (.bool b34) ∧ if b34 = true then
 HRun Try.prog base (Instr.buildSlice 23 1 #[(0, (.int .u64 6))]) H33 fun v35 H36 =>
 ∃ (A37 : Option Addr) (l37 c37 : Nat), v35 = (.slice A37 l37 c37) ∧ HCall Try.prog base 22 #[(.int .u64 31), (.int .u64 2), (.int .u64 8), (.int .u64 14), (.slice A37 l37 c37), (.int .u64 8)] H36 fun v38 H39 =>
 ∃ b40 : Bool, v38 = (.bool b40) ∧ K (.bool ((!b40))) H39
 else
 K (.bool false) H33
 else
 K (.bool false) H27
 else
 K (.bool false) H21
theorem privitylaw21_awake.spec {base : Nat}  {H0 : HH} {K : Value → HH → Prop} (h : privitylaw21_awake.sh base  H0 K) : HCall Try.prog base 16 #[] H0 K := spec_of_wpC (n := 28) (ann := privitylaw21_awake.ann) mix Try.func16 (by kernel_rfl) (cast (show privitylaw21_awake.sh base  H0 K = wpC Try.prog base 28 privitylaw21_awake.ann (bodyOf Try.f16) (ofL []) H0 (retQ Try.prog 28 Try.f16 K) by kernel_rfl) h)
def privitylaw21_validCase.ann : Ann := ⟨fun k => [], fun k => false, fun k => []⟩
def privitylaw21_validCase.sh (base : Nat) (x0_0 : Int) (x0_1 : Int) (Ax0_2 : Option Addr) (lx0_2 cx0_2 : Nat) (Ax0_3 : Option Addr) (lx0_3 cx0_3 : Nat) (Ax0_4 : Option Addr) (lx0_4 cx0_4 : Nat) (H0 : HH) (K : Value → HH → Prop) : Prop :=
 HRun Try.prog base (Instr.box 25 (.agg #[(.int .u64 x0_0), (.int .i64 x0_1), (.slice Ax0_2 lx0_2 cx0_2), (.slice Ax0_3 lx0_3 cx0_3), (.slice Ax0_4 lx0_4 cx0_4)])) H0 fun v1 H2 =>
 ∃ a3 : Addr, v1 = (.pointer ((some a3))) ∧ ∃ a4 : Addr, AQ Try.prog (Instr.fieldAt 25 (.pointer ((some a3))) 0) (.pointer ((some a4))) ∧
 ∃ n5 : Int, QRun Try.prog (Instr.loadAt 22 (.pointer ((some a4)))) H2 (.int .u64 n5) ∧
 HCall Try.prog base 25 #[(.int .u64 n5)] H2 fun v6 H7 =>
 ∃ b8 : Bool, v6 = (.bool b8) ∧ if b8 = true then
 ∃ a9 : Addr, AQ Try.prog (Instr.fieldAt 25 (.pointer ((some a3))) 1) (.pointer ((some a9))) ∧
 ∃ n10 : Int, QRun Try.prog (Instr.loadAt 3 (.pointer ((some a9)))) H7 (.int .i64 n10) ∧
 if (decide ((n10 : Int) ≥ 1)) = true then
 ∃ a11 : Addr, AQ Try.prog (Instr.fieldAt 25 (.pointer ((some a3))) 1) (.pointer ((some a11))) ∧
 ∃ n12 : Int, QRun Try.prog (Instr.loadAt 3 (.pointer ((some a11)))) H7 (.int .i64 n12) ∧
 if (decide ((n12 : Int) ≤ 4)) = true then
 ∃ a13 : Addr, AQ Try.prog (Instr.fieldAt 25 (.pointer ((some a3))) 2) (.pointer ((some a13))) ∧
 ∃ (A14 : Option Addr) (l14 c14 : Nat), QRun Try.prog (Instr.loadAt 23 (.pointer ((some a13)))) H7 (.slice A14 l14 c14) ∧
 ∃ a15 : Addr, AQ Try.prog (Instr.fieldAt 25 (.pointer ((some a3))) 1) (.pointer ((some a15))) ∧
 ∃ n16 : Int, QRun Try.prog (Instr.loadAt 3 (.pointer ((some a15)))) H7 (.int .i64 n16) ∧
 if ((((l14 : Nat) : Int) : Int) == ((IntKind.i64.wrap (n16 + 1)))) = true then
 ∃ a17 : Addr, AQ Try.prog (Instr.fieldAt 25 (.pointer ((some a3))) 3) (.pointer ((some a17))) ∧
 ∃ (A18 : Option Addr) (l18 c18 : Nat), QRun Try.prog (Instr.loadAt 23 (.pointer ((some a17)))) H7 (.slice A18 l18 c18) ∧
 ∃ a19 : Addr, AQ Try.prog (Instr.fieldAt 25 (.pointer ((some a3))) 1) (.pointer ((some a19))) ∧
 ∃ n20 : Int, QRun Try.prog (Instr.loadAt 3 (.pointer ((some a19)))) H7 (.int .i64 n20) ∧
 if ((((l18 : Nat) : Int) : Int) == ((IntKind.i64.wrap (n20 + 1)))) = true then
 ∃ a21 : Addr, AQ Try.prog (Instr.fieldAt 25 (.pointer ((some a3))) 4) (.pointer ((some a21))) ∧
 ∃ (A22 : Option Addr) (l22 c22 : Nat), QRun Try.prog (Instr.loadAt 23 (.pointer ((some a21)))) H7 (.slice A22 l22 c22) ∧
 ∃ a23 : Addr, AQ Try.prog (Instr.fieldAt 25 (.pointer ((some a3))) 1) (.pointer ((some a23))) ∧
 ∃ n24 : Int, QRun Try.prog (Instr.loadAt 3 (.pointer ((some a23)))) H7 (.int .i64 n24) ∧
 ∃ a25 : Addr, AQ Try.prog (Instr.fieldAt 25 (.pointer ((some a3))) 1) (.pointer ((some a25))) ∧
 ∃ n26 : Int, QRun Try.prog (Instr.loadAt 3 (.pointer ((some a25)))) H7 (.int .i64 n26) ∧
 if ((((l22 : Nat) : Int) : Int) == ((IntKind.i64.wrap (n24 * n26)))) = true then
 ∃ a27 : Addr, AQ Try.prog (Instr.fieldAt 25 (.pointer ((some a3))) 0) (.pointer ((some a27))) ∧
 ∃ n28 : Int, QRun Try.prog (Instr.loadAt 22 (.pointer ((some a27)))) H7 (.int .u64 n28) ∧
 ∃ a29 : Addr, AQ Try.prog (Instr.fieldAt 25 (.pointer ((some a3))) 2) (.pointer ((some a29))) ∧
 ∃ (A30 : Option Addr) (l30 c30 : Nat), QRun Try.prog (Instr.loadAt 23 (.pointer ((some a29)))) H7 (.slice A30 l30 c30) ∧
 HCall Try.prog base 26 #[(.int .u64 n28), (.slice A30 l30 c30), (.int .i64 5)] H7 fun v31 H32 =>
 ∃ b33 : Bool, v31 = (.bool b33) ∧ if b33 = true then
 ∃ a34 : Addr, AQ Try.prog (Instr.fieldAt 25 (.pointer ((some a3))) 0) (.pointer ((some a34))) ∧
 ∃ n35 : Int, QRun Try.prog (Instr.loadAt 22 (.pointer ((some a34)))) H32 (.int .u64 n35) ∧
 ∃ a36 : Addr, AQ Try.prog (Instr.fieldAt 25 (.pointer ((some a3))) 3) (.pointer ((some a36))) ∧
 ∃ (A37 : Option Addr) (l37 c37 : Nat), QRun Try.prog (Instr.loadAt 23 (.pointer ((some a36)))) H32 (.slice A37 l37 c37) ∧
 HCall Try.prog base 26 #[(.int .u64 n35), (.slice A37 l37 c37), (.int .i64 5)] H32 fun v38 H39 =>
 ∃ b40 : Bool, v38 = (.bool b40) ∧ if b40 = true then
 ∃ a41 : Addr, AQ Try.prog (Instr.fieldAt 25 (.pointer ((some a3))) 0) (.pointer ((some a41))) ∧
 ∃ n42 : Int, QRun Try.prog (Instr.loadAt 22 (.pointer ((some a41)))) H39 (.int .u64 n42) ∧
 ∃ a43 : Addr, AQ Try.prog (Instr.fieldAt 25 (.pointer ((some a3))) 4) (.pointer ((some a43))) ∧
 ∃ (A44 : Option Addr) (l44 c44 : Nat), QRun Try.prog (Instr.loadAt 23 (.pointer ((some a43)))) H39 (.slice A44 l44 c44) ∧
 HCall Try.prog base 26 #[(.int .u64 n42), (.slice A44 l44 c44), (.int .i64 16)] H39 fun v45 H46 =>
 ∃ b47 : Bool, v45 = (.bool b47) ∧ K (.bool b47) H46
 else
 K (.bool false) H39
 else
 K (.bool false) H32
 else
 K (.bool false) H7
 else
 K (.bool false) H7
 else
 K (.bool false) H7
 else
 K (.bool false) H7
 else
 K (.bool false) H7
 else
 K (.bool false) H7
theorem privitylaw21_validCase.spec {base : Nat} {x0_0 : Int} {x0_1 : Int} {Ax0_2 : Option Addr} {lx0_2 cx0_2 : Nat} {Ax0_3 : Option Addr} {lx0_3 cx0_3 : Nat} {Ax0_4 : Option Addr} {lx0_4 cx0_4 : Nat} {H0 : HH} {K : Value → HH → Prop} (h : privitylaw21_validCase.sh base x0_0 x0_1 Ax0_2 lx0_2 cx0_2 Ax0_3 lx0_3 cx0_3 Ax0_4 lx0_4 cx0_4 H0 K) : HCall Try.prog base 15 #[(.agg #[(.int .u64 x0_0), (.int .i64 x0_1), (.slice Ax0_2 lx0_2 cx0_2), (.slice Ax0_3 lx0_3 cx0_3), (.slice Ax0_4 lx0_4 cx0_4)])] H0 K := spec_of_wpC (n := 66) (ann := privitylaw21_validCase.ann) mix Try.func15 (by kernel_rfl) (cast (show privitylaw21_validCase.sh base x0_0 x0_1 Ax0_2 lx0_2 cx0_2 Ax0_3 lx0_3 cx0_3 Ax0_4 lx0_4 cx0_4 H0 K = wpC Try.prog base 66 privitylaw21_validCase.ann (bodyOf Try.f15) (ofL [(.agg #[(.int .u64 x0_0), (.int .i64 x0_1), (.slice Ax0_2 lx0_2 cx0_2), (.slice Ax0_3 lx0_3 cx0_3), (.slice Ax0_4 lx0_4 cx0_4)])]) H0 (retQ Try.prog 66 Try.f15 K) by kernel_rfl) h)
def privitylaw21_valuesAt.ann : Ann := ⟨fun k => [], fun k => false, fun k => bif Nat.beq k 3 then [0, 1, 2, 7, 8] else []⟩
def privitylaw21_valuesAt.P0 (base : Nat) (l : List Value) (H0 : HH) (K : Value → HH → Prop) : Prop := HCodeL Try.prog base 26 (codeAt [.r, .r, .l, .r, .b] (bodyOf Try.f24)) [0, 1, 2, 7, 8] l H0 (qAt Try.prog base 26 privitylaw21_valuesAt.ann [.r, .r, .l, .r, .b] [] (bodyOf Try.f24) (retQ Try.prog 26 Try.f24 K))
def privitylaw21_valuesAt.sh (base : Nat) (x0 : Int) (Ax1 : Option Addr) (lx1 cx1 : Nat) (x2 : Int) (H0 : HH) (K : Value → HH → Prop) : Prop :=
 privitylaw21_valuesAt.P0 base [(.int .u64 x0), (.slice Ax1 lx1 cx1), (.int .u64 x2), (.slice none 0 0), (.int .i64 0)] H0 K
theorem privitylaw21_valuesAt.spec {base : Nat} {x0 : Int} {Ax1 : Option Addr} {lx1 cx1 : Nat} {x2 : Int} {H0 : HH} {K : Value → HH → Prop} (h : privitylaw21_valuesAt.sh base x0 Ax1 lx1 cx1 x2 H0 K) : HCall Try.prog base 24 #[(.int .u64 x0), (.slice Ax1 lx1 cx1), (.int .u64 x2)] H0 K := spec_of_wpC (n := 26) (ann := privitylaw21_valuesAt.ann) mix Try.func24 (by kernel_rfl) (cast (show privitylaw21_valuesAt.sh base x0 Ax1 lx1 cx1 x2 H0 K = wpC Try.prog base 26 privitylaw21_valuesAt.ann (bodyOf Try.f24) (ofL [(.int .u64 x0), (.slice Ax1 lx1 cx1), (.int .u64 x2)]) H0 (retQ Try.prog 26 Try.f24 K) by kernel_rfl) h)
def privitylaw21_valuesAt.B0 (base : Nat) (x0 : Int) (Ax1 : Option Addr) (lx1 cx1 : Nat) (x2 : Int) (Ay7 : Option Addr) (ly7 cy7 : Nat) (y8 : Int) (g : Fr) (N0 : Value → Value → HH → Prop) (H0 : HH) (K : Value → HH → Prop) : Prop :=
 if (decide ((y8 : Int) < (((lx1 : Nat) : Int)))) = true then
 ∃ a1 : Addr, AQ Try.prog (Instr.indexAt 28 (.slice Ax1 lx1 cx1) (.int .i64 y8)) (.pointer ((some a1))) ∧
 ∃ (A2 : Option Addr) (l2 c2 : Nat), QRun Try.prog (Instr.loadAt 23 (.pointer ((some a1)))) H0 (.slice A2 l2 c2) ∧
 HCall Try.prog base 23 #[(.int .u64 x0), (.slice A2 l2 c2), (.int .u64 x2)] H0 fun v3 H4 =>
 ∃ n5 : Int, v3 = (.int .u64 n5) ∧ HRun Try.prog base (Instr.buildSlice 23 1 #[(0, (.int .u64 n5))]) H4 fun v6 H7 =>
 ∃ (A8 : Option Addr) (l8 c8 : Nat), v6 = (.slice A8 l8 c8) ∧ HRun Try.prog base (Builtin.append_ #[23, 23] 23 #[(.slice Ay7 ly7 cy7), (.slice A8 l8 c8)]) H7 fun v9 H10 =>
 ∃ (A11 : Option Addr) (l11 c11 : Nat), v9 = (.slice A11 l11 c11) ∧ N0 (.slice A11 l11 c11) (.int .i64 ((IntKind.i64.wrap (y8 + 1)))) H10
 else
 K (.slice Ay7 ly7 cy7) H0
theorem privitylaw21_valuesAt.loop0 {base : Nat} {x0 : Int} {Ax1 : Option Addr} {lx1 cx1 : Nat} {x2 : Int} {Ay7_i : Option Addr} {ly7_i cy7_i : Nat} {y8_i : Int} {H0 : HH} {K : Value → HH → Prop} (J : Nat → Option Addr → Nat → Nat → Int → HH → Prop) (n : Nat) (h0 : J n Ay7_i ly7_i cy7_i y8_i H0)
    (hs : ∀ (n : Nat) (Ay7 : Option Addr) (ly7 cy7 : Nat) (y8 : Int) (g : Fr) (H0 : HH), J n Ay7 ly7 cy7 y8 H0 → privitylaw21_valuesAt.B0 base x0 Ax1 lx1 cx1 x2 Ay7 ly7 cy7 y8 g (fun w7 w8 H => ∃ n', n' < n ∧ ∃ (Ay7' : Option Addr) (ly7' cy7' : Nat) (y8' : Int), w7 = (.slice Ay7' ly7' cy7') ∧ w8 = (.int .i64 y8') ∧ J n' Ay7' ly7' cy7' y8' H) H0 K) : privitylaw21_valuesAt.P0 base [(.int .u64 x0), (.slice Ax1 lx1 cx1), (.int .u64 x2), (.slice Ay7_i ly7_i cy7_i), (.int .i64 y8_i)] H0 K := by
  refine loop_rule (ann := privitylaw21_valuesAt.ann) (body := codeAt [.r, .r, .l, .r, .b, .lp] (bodyOf Try.f24)) mix (by kernel_rfl) 33554304 (by kernel_rfl) [0, 1, 2] [(.int .u64 x0), (.slice Ax1 lx1 cx1), (.int .u64 x2)] (by kernel_rfl) (fun fr ⟨e0, e1, e2, e7, e8, _⟩ => ⟨e0, e1, e2, trivial⟩) (fun n g H => ∃ (Ay7 : Option Addr) (ly7 cy7 : Nat) (y8 : Int), g 7 = (.slice Ay7 ly7 cy7) ∧ g 8 = (.int .i64 y8) ∧ J n Ay7 ly7 cy7 y8 H) n (fun fr ⟨e0, e1, e2, e7, e8, _⟩ => ⟨Ay7_i, ly7_i, cy7_i, y8_i, e7, e8, h0⟩) ?_
  rintro n g H0 ⟨e0, e1, e2, _⟩ ⟨Ay7, ly7, cy7, y8, e7, e8, hJ⟩
  rw [← ov_eq (g := g) [(0, (.int .u64 x0)), (1, (.slice Ax1 lx1 cx1)), (2, (.int .u64 x2)), (7, (.slice Ay7 ly7 cy7)), (8, (.int .i64 y8))] (by simp only [List.mem_cons, List.not_mem_nil, or_false, forall_eq_or_imp, forall_eq, false_implies, implies_true]; exact ⟨e0, e1, e2, e7, e8⟩)]
  have key : ∀ NN : Value → Value → HH → Prop, privitylaw21_valuesAt.B0 base x0 Ax1 lx1 cx1 x2 Ay7 ly7 cy7 y8 g NN H0 K = wpC Try.prog base 26 privitylaw21_valuesAt.ann (codeAt [.r, .r, .l, .r, .b, .lp] (bodyOf Try.f24)) (ov g [(0, (.int .u64 x0)), (1, (.slice Ax1 lx1 cx1)), (2, (.int .u64 x2)), (7, (.slice Ay7 ly7 cy7)), (8, (.int .i64 y8))]) H0 (thenQ (fun fr H => NN (fr 7) (fr 8) H) (qAt Try.prog base 26 privitylaw21_valuesAt.ann [.r, .r, .l, .r, .b] [] (bodyOf Try.f24) (retQ Try.prog 26 Try.f24 K))) := fun NN => by kernel_rfl
  refine cast ?_ (hs n Ay7 ly7 cy7 y8 g H0 hJ)
  refine (key (fun w7 w8 H => ∃ n', n' < n ∧ ∃ (Ay7' : Option Addr) (ly7' cy7' : Nat) (y8' : Int), w7 = (.slice Ay7' ly7' cy7') ∧ w8 = (.int .i64 y8') ∧ J n' Ay7' ly7' cy7' y8' H)).trans ?_
  kernel_rfl
end Go.Proofs.Ytjkggiemnfigbaa.HL
end
section
set_option linter.unusedVariables false
namespace Go.Proofs.Ytjkggiemnfigbaa.HL
open Go
theorem aq_ix {P : Program} {t e sz : Nat} (ht : P.underlying t = some (.slice e)) (hs : (P.info? e).map (·.size) = some sz) {ad : Addr} {n c : Nat} {k : IntKind} {i : Int} (h0 : 0 ≤ i) (h1 : i < n) :
    AQ P (Instr.indexAt t (.slice (some ad) n c) (.int k i)) (.pointer (some (ad.add (i.toNat * sz)))) := fun W => by
  simp [Instr.indexAt, run_under ht, asIntOf, h0, h1, run_sz hs]
theorem info22 : (Try.prog.info? 22).map (·.size) = some 1 := by kernel_rfl
theorem info32 : (Try.prog.info? 23).map (·.size) = some 1 := by kernel_rfl
theorem info3 : (Try.prog.info? 3).map (·.size) = some 1 := by kernel_rfl
theorem sc22 : scalarB Try.prog 22 = true := by kernel_rfl
theorem sc32 : scalarB Try.prog 23 = true := by kernel_rfl
theorem sc3 : scalarB Try.prog 3 = true := by kernel_rfl
theorem un32 : Try.prog.underlying 23 = some (.slice 22) := by kernel_rfl
theorem un23 : Try.prog.underlying 28 = some (.slice 23) := by kernel_rfl
theorem un57 : Try.prog.underlying 88 = some (.slice 3) := by kernel_rfl
theorem w63 {n : Int} (h0 : 0 ≤ n) (h1 : n < 9223372036854775807) : IntKind.i64.wrap (n + 1) = n + 1 := by
  unfold IntKind.wrap
  simp [IntKind.bits, IntKind.signed]
  omega
theorem Rd.at {H : HH} {A : Option Addr} {xs : List Value} (h : Rd H A xs) {i : Nat} {u : Value} (hu : xs[i]? = some u) : ∃ ad, A = some ad ∧ cellH H (ad.add i) = some u := h.get hu
/-- Words as values. -/
def us (l : List Int) : List Value := l.map (Value.int .u64)
def is (l : List Int) : List Value := l.map (Value.int .i64)
@[simp] theorem us_length (l : List Int) : (us l).length = l.length := by simp [us]
def Row (H : HH) (A : Option Addr) (n : Nat) (l : List Int) : Prop := n = l.length ∧ Rd H A (us l)
def Mat (H : HH) (A : Option Addr) (n : Nat) (m : List (List Int)) : Prop := n = m.length ∧ ∃ rs : List Value, rs.length = m.length ∧ Rd H A rs ∧ ∀ (i : Nat) (l : List Int), m[i]? = some l → ∃ A' c, rs[i]? = some (.slice A' l.length c) ∧ Rd H A' (us l)
section
variable {H : HH} {A : Option Addr} {n c : Nat} {l : List Int} {m : List (List Int)} {i : Int}
theorem Row.ext {H' : HH} (h : Row H A n l) (he : Ext H H') : Row H' A n l := ⟨h.1, h.2.ext he⟩
theorem Mat.ext {H' : HH} (h : Mat H A n m) (he : Ext H H') : Mat H' A n m := by
  obtain ⟨h1, rs, h2, h3, h4⟩ := h
  exact ⟨h1, rs, h2, h3.ext he, fun i l hl => by obtain ⟨A', c, h5, h6⟩ := h4 i l hl; exact ⟨A', c, h5, h6.ext he⟩⟩
theorem Row.nil : Row H none 0 [] := ⟨rfl, .inl rfl⟩
theorem Mat.nil : Mat H none 0 [] := ⟨rfl, [], rfl, .inl rfl, fun i l h => by simp at h⟩
theorem Row.at (h : Row H A n l) (c : Nat) (h0 : 0 ≤ i) (h1 : i < n) : ∃ a, AQ Try.prog (Instr.indexAt 23 (.slice A n c) (.int .i64 i)) (.pointer (some a)) ∧ QRun Try.prog (Instr.loadAt 22 (.pointer (some a))) H (.int .u64 (l.getD i.toNat 0)) := by
  obtain ⟨e, h⟩ := h
  have hi : i.toNat < l.length := by omega
  obtain ⟨ad, rfl, hc⟩ := h.at (i := i.toNat) (u := .int .u64 (l.getD i.toNat 0)) (by simp [us, hi])
  exact ⟨_, aq_ix un32 info22 h0 h1, q_ld sc22 (by rw [Nat.mul_one]; exact hc)⟩
theorem Mat.at (h : Mat H A n m) (c : Nat) (h0 : 0 ≤ i) (h1 : i < n) : ∃ a, AQ Try.prog (Instr.indexAt 28 (.slice A n c) (.int .i64 i)) (.pointer (some a)) ∧ ∃ A' c', QRun Try.prog (Instr.loadAt 23 (.pointer (some a))) H (.slice A' (m.getD i.toNat []).length c') ∧ Row H A' (m.getD i.toNat []).length (m.getD i.toNat []) := by
  obtain ⟨e, rs, h2, h3, h4⟩ := h
  have hi : i.toNat < m.length := by omega
  obtain ⟨A', c', h5, h6⟩ := h4 i.toNat (m.getD i.toNat []) (by simp [hi])
  obtain ⟨ad, rfl, hc⟩ := h3.at h5
  exact ⟨_, aq_ix un23 info32 h0 h1, A', c', q_ld sc32 (by rw [Nat.mul_one]; exact hc), rfl, h6⟩
theorem getD_cons_drop {α : Type} {l : List α} {i : Nat} (h : i < l.length) (d : α) : l.drop i = l.getD i d :: l.drop (i + 1) := by
  rw [List.drop_eq_getElem_cons h]
  simp [h]
end
end Go.Proofs.Ytjkggiemnfigbaa.HL
end
section
set_option linter.unusedVariables false
set_option linter.unusedSimpArgs false
set_option linter.unusedSectionVars false
namespace Go.Proofs.Ytjkggiemnfigbaa.HL
open Go Go.RowKit Go.Proofs.YtjkggiemnfigbaaW.PrintWords Go.Proofs.YtjkggiemnfigbaaW.PrintMore
/-- What was known, and all that came since. -/
def more (H : HH) (W W' : World) : HH := fun b => if b < W.heap.size then H b else W'.heap[b]?
theorem more_ext {H : HH} {W W' : World} (hs : Sat H W) : Ext H (more H W W') := fun b o hb => by
  have := (Array.getElem?_eq_some_iff.1 (hs b o hb)).1
  unfold more
  rw [if_pos this]
  exact hb
theorem more_to {base : Nat} {H : HH} {W W' : World} (hs : Sat H W) (h : Below W.heap.size W W') : To base H W (more H W W') W' :=
  ⟨h.os, h.tape, h.output, h.size, fun k hk _ => h.block k hk, fun b o hb => by
    unfold more at hb
    split at hb
    · rename_i hlt
      exact (h.block b hlt).trans (hs b o hb)
    · exact hb, fun k hk hn => by
    unfold more
    rw [if_pos hk]
    exact hn⟩
theorem HCall.fresh {P : Program} {base : Nat} {f : FuncId} {args : Array Value} {H : HH} {Q : World → World → Value → Prop} {K : Value → HH → Prop} (he : ∀ W, (callFunc f args).run P W = .ok (.enter f args) W)
    (h : ∀ W, Sat H W → base ≤ W.heap.size → Calls P f args W fun e W' => ∃ v, e = .returned v ∧ Q W W' v ∧ Below W.heap.size W W')
    (hk : ∀ W W' v, Sat H W → base ≤ W.heap.size → Q W W' v → Ext H (more H W W') → K v (more H W W')) : HCall P base f args H K :=
  ⟨he, fun W hs hb => (h W hs hb).mono fun e W' ⟨v, h1, h2, h3⟩ => ⟨v, more H W W', h1, hk W W' v hs hb h2 (more_ext hs), more_to hs h3⟩⟩
theorem own_more {base T sz n : Nat} {H : HH} {W W' : World} {v : Value} {xs : List Value} (hb : base ≤ W.heap.size) (h : W'.ownsRow W.heap.size T sz v n xs) : Own base (more H W W') T sz v n xs := by
  obtain ⟨h1, h2⟩ := h
  refine ⟨h1, h2.imp id ?_⟩
  rintro ⟨g, cap, cur, e, hg, hh, r⟩
  refine ⟨g, cap, cur, e, by omega, ?_, r⟩
  unfold more
  rw [if_neg (by omega)]
  exact hh
theorem reps_int {l : List Int} {cs : List Value} (h : Reps (fun (x : Int) (c : List Value) => c = [Value.int .u64 x]) 1 l cs) : cs = us l := by
  obtain ⟨h1, h2⟩ := h
  apply List.ext_getElem?
  intro i
  unfold us
  rw [List.getElem?_map]
  rcases Nat.lt_or_ge i l.length with hi | hi
  · have := h2 i l[i] (List.getElem?_eq_getElem hi)
    rw [Nat.mul_one] at this
    rw [List.getElem?_eq_getElem hi]
    have h3 : ((cs.drop i).take 1)[0]? = cs[i]? := by rw [List.getElem?_take_of_lt (by omega), List.getElem?_drop]; rfl
    rw [← h3, this]
    rfl
  · rw [List.getElem?_eq_none (by omega), List.getElem?_eq_none hi]
    rfl
section
variable {base : Nat} {H : HH} {W W' : World}
theorem row_more {T : Nat} {ok : Nat → Prop} {v : Value} {l : List Int} (hb : base ≤ W.heap.size) (h : (Kd.int .u64).R T W' W.heap.size ok v l) : ∃ A c, v = .slice A l.length c ∧ Own base (more H W W') T 1 (.slice A l.length c) l.length (us l) := by
  obtain ⟨_, inner, ho, hr⟩ := h
  have e : inner = us l := reps_int hr
  subst e
  have ho' := own_more (H := H) hb ho
  obtain ⟨A, c, rfl, _⟩ := ho'.slice
  exact ⟨A, c, rfl, ho'⟩
/-- Rows of words, each with room for its words. -/
def MatC (H : HH) (A : Option Addr) (n : Nat) (m : List (List Int)) : Prop := n = m.length ∧ ∃ rs : List Value, rs.length = m.length ∧ Rd H A rs ∧ ∀ (i : Nat) (l : List Int), m[i]? = some l → ∃ A' c, rs[i]? = some (.slice A' l.length c) ∧ l.length ≤ c ∧ Rd H A' (us l)
theorem MatC.mat {A : Option Addr} {n : Nat} {m : List (List Int)} (h : MatC H A n m) : Mat H A n m := by
  obtain ⟨h1, rs, h2, h3, h4⟩ := h
  exact ⟨h1, rs, h2, h3, fun i l hl => by obtain ⟨A', c, h5, _, h6⟩ := h4 i l hl; exact ⟨A', c, h5, h6⟩⟩
theorem MatC.ext {A : Option Addr} {n : Nat} {m : List (List Int)} {H' : HH} (h : MatC H A n m) (he : Ext H H') : MatC H' A n m := by
  obtain ⟨h1, rs, h2, h3, h4⟩ := h
  exact ⟨h1, rs, h2, h3.ext he, fun i l hl => by obtain ⟨A', c, h5, h6, h7⟩ := h4 i l hl; exact ⟨A', c, h5, h6, h7.ext he⟩⟩
theorem MatC.at {A : Option Addr} {n : Nat} {m : List (List Int)} {i : Int} (h : MatC H A n m) (c : Nat) (h0 : 0 ≤ i) (h1 : i < n) : ∃ a, AQ Try.prog (Instr.indexAt 28 (.slice A n c) (.int .i64 i)) (.pointer (some a)) ∧ ∃ A' c', QRun Try.prog (Instr.loadAt 23 (.pointer (some a))) H (.slice A' (m.getD i.toNat []).length c') ∧ Row H A' (m.getD i.toNat []).length (m.getD i.toNat []) ∧ (m.getD i.toNat []).length ≤ c' := by
  obtain ⟨e, rs, h2, h3, h4⟩ := h
  have hi : i.toNat < m.length := by omega
  obtain ⟨A', c', h5, h7, h6⟩ := h4 i.toNat (m.getD i.toNat []) (by simp [hi])
  obtain ⟨ad, rfl, hc⟩ := h3.at h5
  exact ⟨_, aq_ix un23 info32 h0 h1, A', c', q_ld sc32 (by rw [Nat.mul_one]; exact hc), ⟨rfl, h6⟩, h7⟩
theorem mat_more {T : Nat} {ok : Nat → Prop} {v : Value} {m : List (List Int)} (hb : base ≤ W.heap.size) (h : Kd.S (Kd.slice 22 (Kd.int .u64)) T W' W.heap.size ok v m) : ∃ A c, v = .slice A m.length c ∧ m.length ≤ c ∧ MatC (more H W W') A m.length m := by
  obtain ⟨_, inner, ho, hr⟩ := Kd.S_R h
  have ho' := own_more (H := H) hb ho
  obtain ⟨A, c, rfl, hc, hrd⟩ := ho'.slice
  have hlen : inner.length = m.length := by rw [ho'.1]; exact Nat.mul_one _
  refine ⟨A, c, rfl, hc, rfl, inner, hlen, hrd, fun i l hl => ?_⟩
  have hi := (List.getElem?_eq_some_iff.1 hl).1
  obtain ⟨u, hu, hur⟩ := hr.2 i l hl
  obtain ⟨A', c', rfl, ho2⟩ := row_more (H := H) hb hur
  obtain ⟨A2, c2, e2, hc2, h2⟩ := ho2.slice
  cases e2
  refine ⟨A', c', ?_, hc2, h2⟩
  have h3 : ((inner.drop (i * 1)).take 1)[0]? = inner[i]? := by rw [List.getElem?_take_of_lt (by omega), List.getElem?_drop, Nat.mul_one]; rfl
  rw [← h3]
  exact congrArg (fun x : List Value => x[0]?) hu
/-- Rows that are read, as the kit's contracts ask for them. -/
theorem kd_row {A : Option Addr} {n : Nat} {l : List Int} (hs : Sat H W) (h : Row H A n l) (hz : l.length ≤ maxLen) : (Kd.int .u64).C W A n l := by
  obtain ⟨e, h⟩ := h
  refine ⟨e.symm, by rw [e]; exact hz, fun hn => ?_⟩
  rcases h with h | ⟨ad, rfl, hc⟩
  · have := congrArg List.length h
    rw [us_length] at this
    have : l.length = 0 := this
    omega
  · refine ⟨ad, rfl, fun j p hj => ⟨[.int .u64 p], rfl, rfl, fun i u hu => ?_⟩⟩
    have hi : i = 0 := by
      have := (List.getElem?_eq_some_iff.1 hu).1
      simp at this
      exact this
    subst hi
    have hu : Value.int .u64 p = u := by simpa using hu
    rw [← hu]
    have e1 : (us l)[j]? = some (.int .u64 p) := by unfold us; rw [List.getElem?_map, hj]; rfl
    have := cellH_sat hs (hc j _ e1)
    rw [show j * (Kd.int IntKind.u64).sz + 0 = j from Nat.mul_one j]
    exact this
end
end Go.Proofs.Ytjkggiemnfigbaa.HL
end
section
set_option linter.unusedVariables false
set_option linter.unusedSimpArgs false
namespace Go.Proofs.Ytjkggiemnfigbaa.HL
open Go
theorem nxt {j n : Nat} (h : j < n) (hn : n ≤ maxLen) : IntKind.i64.wrap ((j : Int) + 1) = ((j + 1 : Nat) : Int) := by
  rw [w63 (by omega) (by unfold maxLen at hn; omega)]; omega
theorem take_eq_succ {α : Type} {l l' : List α} {j : Nat} (h : l.take j = l'.take j) (h1 : j < l.length) (h2 : j < l'.length) {d : α} (e : l.getD j d = l'.getD j d) : l.take (j + 1) = l'.take (j + 1) := by
  rw [List.take_add_one, List.take_add_one, h, List.getElem?_eq_getElem h1, List.getElem?_eq_getElem h2]
  simp [h1, h2] at e
  rw [e]
section
variable {base : Nat} {H : HH} {K : Value → HH → Prop} {A A' : Option Addr} {n n' c c' : Nat}
theorem h_sameList {l l' : List Int} (h : Row H A n l) (h' : Row H A' n' l') (hm : l.length ≤ maxLen) (hk : K (.bool (decide (l = l'))) H) : HCall Try.prog base 20 #[.slice A n c, .slice A' n' c'] H K := by
  refine privityref06_SameList.spec ?_
  unfold privityref06_SameList.sh
  have e1 := h.1
  have e2 := h'.1
  split
  · rename_i e
    have : l ≠ l' := fun hl => by subst hl; simp at e; omega
    simpa [this] using hk
  · rename_i e
    have en : n = n' := by simp at e; omega
    refine privityref06_SameList.loop0 (fun m y H' => H' = H ∧ ∃ j : Nat, y = j ∧ j ≤ n ∧ m = n - j ∧ l.take j = l'.take j) n ⟨rfl, 0, rfl, Nat.zero_le _, by omega, by simp⟩ ?_
    rintro m y g H' ⟨rfl, j, rfl, hj, hm', ht⟩
    unfold privityref06_SameList.B0
    split
    · rename_i e
      have e := of_decide_eq_true e
      obtain ⟨a, q1, q2⟩ := h.at c (i := j) (by omega) e
      refine ⟨a, q1, _, q2, ?_⟩
      obtain ⟨a, q1, q2⟩ := h'.at c' (i := j) (by omega) (by omega)
      refine ⟨a, q1, _, q2, ?_⟩
      rw [Int.toNat_natCast]
      split
      · rename_i e3
        have : l ≠ l' := fun hl => by subst hl; simp at e3
        simpa [this] using hk
      · rename_i e3
        refine ⟨m - 1, by omega, _, rfl, rfl, j + 1, nxt (n := n) (by omega) (by omega), by omega, by omega, take_eq_succ ht (by omega) (by omega) (d := 0) (by simpa using e3)⟩
    · rename_i e
      have e : ¬ ((j : Int) < (n : Int)) := fun h => e (decide_eq_true h)
      have : l = l' := by rwa [List.take_of_length_le (by omega), List.take_of_length_le (by omega)] at ht
      simpa [this] using hk
theorem h_same {m m' : List (List Int)} (h : Mat H A n m) (h' : Mat H A' n' m') (hm : m.length ≤ maxLen) (hr : ∀ r ∈ m, r.length ≤ maxLen) (hk : K (.bool (decide (m = m'))) H) : HCall Try.prog base 19 #[.slice A n c, .slice A' n' c'] H K := by
  refine privityref06_Same.spec ?_
  unfold privityref06_Same.sh
  have e1 := h.1
  have e2 := h'.1
  split
  · rename_i e
    have : m ≠ m' := fun hl => by subst hl; simp at e; omega
    simpa [this] using hk
  · rename_i e
    have en : n = n' := by simp at e; omega
    refine privityref06_Same.loop0 (fun k y H' => H' = H ∧ ∃ j : Nat, y = j ∧ j ≤ n ∧ k = n - j ∧ m.take j = m'.take j) n ⟨rfl, 0, rfl, Nat.zero_le _, by omega, by simp⟩ ?_
    rintro k y g H' ⟨rfl, j, rfl, hj, hm', ht⟩
    unfold privityref06_Same.B0
    split
    · rename_i e
      have e := of_decide_eq_true e
      obtain ⟨a, q1, A1, c1, q2, q3⟩ := h.at c (i := j) (by omega) e
      refine ⟨a, q1, _, _, _, q2, ?_⟩
      obtain ⟨a, q1, A2, c2, q2, q4⟩ := h'.at c' (i := j) (by omega) (by omega)
      refine ⟨a, q1, _, _, _, q2, ?_⟩
      rw [Int.toNat_natCast] at q3 q4 ⊢
      refine h_sameList q3 q4 (hr _ (by simp [show j < m.length by omega])) ⟨_, rfl, ?_⟩
      split
      · rename_i e3
        have : m ≠ m' := fun hl => by subst hl; simp at e3
        simpa [this] using hk
      · rename_i e3
        refine ⟨k - 1, by omega, _, rfl, rfl, j + 1, nxt (n := n) (by omega) (by omega), by omega, by omega, take_eq_succ ht (by omega) (by omega) (d := []) (by simpa using e3)⟩
    · rename_i e
      have e : ¬ ((j : Int) < (n : Int)) := fun h => e (decide_eq_true h)
      have : m = m' := by rwa [List.take_of_length_le (by omega), List.take_of_length_le (by omega)] at ht
      simpa [this] using hk
def belowB (p : Int) (l : List Int) (most : Int) : Bool := decide ((l.length : Int) ≤ most) && l.all fun x => decide (x < p)
theorem h_below {l : List Int} {p most : Int} (h : Row H A n l) (hm : l.length ≤ maxLen) (hk : K (.bool (belowB p l most)) H) : HCall Try.prog base 26 #[.int .u64 p, .slice A n c, .int .i64 most] H K := by
  refine privityref06_Below.spec ?_
  unfold privityref06_Below.sh
  have e1 := h.1
  refine privityref06_Below.loop0 (fun m y H' => H' = H ∧ ∃ j : Nat, y = j ∧ j ≤ n ∧ m = n - j ∧ ∀ x ∈ l.take j, x < p) n ⟨rfl, 0, rfl, Nat.zero_le _, by omega, by simp⟩ ?_
  rintro m y g H' ⟨rfl, j, rfl, hj, hm', ht⟩
  unfold privityref06_Below.B0
  split
  · rename_i e
    have e := of_decide_eq_true e
    split
    · rename_i e4
      obtain ⟨a, q1, q2⟩ := h.at c (i := j) (by omega) e
      refine ⟨a, q1, _, q2, ?_⟩
      rw [Int.toNat_natCast]
      split
      · rename_i e3
        have e3 := of_decide_eq_true e3
        have : belowB p l most = false := by
          unfold belowB
          rw [Bool.and_eq_false_iff]
          right
          rw [List.all_eq_false]
          exact ⟨l.getD j 0, by simp [show j < l.length by omega], by simpa using e3⟩
        rwa [this] at hk
      · rename_i e3
        refine ⟨m - 1, by omega, _, rfl, rfl, j + 1, nxt (n := n) (by omega) (by omega), by omega, by omega, ?_⟩
        intro x hx
        rw [List.take_add_one, List.mem_append] at hx
        rcases hx with hx | hx
        · exact ht x hx
        · simp [show j < l.length by omega] at hx e3
          omega
    · rename_i e4
      refine privityref06_Below.rest0 ?_
      unfold privityref06_Below.S0
      have e4 : ¬ ((j : Int) ≤ most) := fun h => e4 (decide_eq_true h)
      have : belowB p l most = decide (((n : Nat) : Int) ≤ most) := by
        unfold belowB
        rw [decide_eq_false (show ¬ (l.length : Int) ≤ most by omega), decide_eq_false (by omega)]
        simp
      rwa [this] at hk
  · rename_i e
    refine privityref06_Below.rest0 ?_
    unfold privityref06_Below.S0
    have e : ¬ ((j : Int) < (n : Int)) := fun h => e (decide_eq_true h)
    have : belowB p l most = decide (((n : Nat) : Int) ≤ most) := by
      unfold belowB
      rw [List.take_of_length_le (by omega)] at ht
      rw [e1]
      have : (l.all fun x => decide (x < p)) = true := by simpa using ht
      rw [this, Bool.and_true]
    rwa [this] at hk
end
end Go.Proofs.Ytjkggiemnfigbaa.HL
end
section
set_option linter.unusedVariables false
set_option linter.unusedSimpArgs false
namespace Go.Proofs.Ytjkggiemnfigbaa.HL
open Go
section
variable {base : Nat} {H : HH} {K : Value → HH → Prop} {A A' : Option Addr} {n n' c c' : Nat} {m : List (List Int)}
/-- No sizes that no machine has. -/
def Sz (m : List (List Int)) : Prop := m.length ≤ maxLen ∧ ∀ r ∈ m, r.length ≤ maxLen
theorem Sz.at (h : Sz m) {j : Nat} (hj : j < m.length) : (m.getD j []).length ≤ maxLen := h.2 _ (by simp [hj])
end
end Go.Proofs.Ytjkggiemnfigbaa.HL
end
section
set_option linter.unusedVariables false
set_option linter.unusedSimpArgs false
namespace Go.Proofs.Ytjkggiemnfigbaa.HL
open Go
theorem Grows.trans_ext {H H1 H2 : HH} {v v' : Value} (he : Ext H H1) (h : Grows H1 H2 v v') : Grows H H2 v v' :=
  ⟨fun b o hb ho => h.keep b o hb (he b o ho), h.at_.imp id (fun k b hb => he.none (k b hb))⟩
section
variable {P : Program} {base : Nat} {H : HH}
theorem h_push {t e by_ ty : Nat} {z : Value} (ht : P.underlying t = some (.slice e)) (hi : (P.info? e).map (fun i => (i.zero, i.size, i.bytes)) = some (some z, 1, by_)) (hz : z.cells = #[z]) (hby : by_ ≤ 128) {u v : Value} (hu : u.oneCell' = true) {n : Nat} {xs : List Value}
    (ho : Own base H e 1 v n xs) (hlim : n + 1 < 1099511627776) {C : Option Addr → Nat → Nat → HH → Prop}
    (h : ∀ A' c' H', Own base H' e 1 (.slice A' (n + 1) c') (n + 1) (xs ++ [u]) → Grows H H' v (.slice A' (n + 1) c') → C A' (n + 1) c' H') :
    HRun P base (Instr.buildSlice t 1 #[(0, u)]) H fun v1 H1 => ∃ (A : Option Addr) (l c : Nat), v1 = .slice A l c ∧ HRun P base (Builtin.append_ #[t, t] ty #[v, .slice A l c]) H1 fun v2 H2 => ∃ (A' : Option Addr) (l' c' : Nat), v2 = .slice A' l' c' ∧ C A' l' c' H2 := by
  have hc : u.cells = #[u] := by cases u <;> first | rfl | (simp [Value.oneCell'] at hu)
  have hfill : Instr.fill (fun i => some (i * 1, 1)) (madeCells z.cells (1 * 1)) [(0, u)] = some #[u] := by
    simp [Instr.fill, madeCells, hz, hc, show Array.range 1 = #[0] from by decide]
  refine h_lit (sz := 1) (z := z) (cs := #[u]) ht ?_ (by decide) hfill (by decide) (fun b hb hbase => ?_)
  · obtain ⟨i, h1, h2⟩ := Option.map_eq_some_iff.1 hi
    simp only [Prod.mk.injEq] at h2
    rw [h1]; simp [h2]
  · have he : Ext H (upd H b (.cells #[u] e)) := Ext.upd hb _
    refine ⟨_, _, _, rfl, h_app (m := 1) (ys := [u]) ht hi (by rw [hz]; rfl) (by decide) (ho.ext he) ?_ (by simp) (by simpa using hu) (by simp) (by omega) hby (fun A' c' H' h1 h2 => ⟨_, _, _, rfl, h A' c' H' h1 (h2.trans_ext he)⟩)⟩
    refine .inr ⟨_, rfl, fun i w hw => ?_⟩
    match i, hw with
    | 0, hw =>
      cases hw
      show cellH _ ((⟨b, 0, none⟩ : Addr).add 0) = _
      simp [Addr.add, cellH, upd_self]
end
/-- F is known in H, and v's block is not in F. -/
structure Frz (F H : HH) (v : Value) : Prop where
  ext : Ext F H
  off : ∀ b, v.ownBlock = some b → F b = none
section
variable {F H H' : HH} {v v' : Value}
theorem Frz.nil (H : HH) : Frz H H (.slice none 0 0) := ⟨.refl H, fun b hb => by simp [Value.ownBlock] at hb⟩
theorem Frz.grow (h : Frz F H v) (g : Grows H H' v v') : Frz F H' v' :=
  ⟨fun b o hb => g.keep b o (fun e => by rw [h.off b e] at hb; cases hb) (h.ext b o hb), fun b hb => by
    rcases g.at_ with e | e
    · exact h.off b (e ▸ hb)
    · exact h.ext.none (e b hb)⟩
theorem Frz.more (h : Frz F H v) (he : Ext H H') : Frz F H' v := ⟨h.ext.trans he, h.off⟩
/-- A finished row joins what is frozen. -/
theorem freeze {base T n : Nat} {xs : List Value} {w : Value} (hw : Frz F H w) (hv : Frz F H v) (ho : Own base H T 1 v n xs) (hd : ∀ b, w.ownBlock = some b → v.ownBlock ≠ some b) :
    ∃ F', Ext F F' ∧ Frz F' H w ∧ ∃ A c, v = .slice A n c ∧ Rd F' A xs := by
  obtain ⟨h1, h2⟩ := ho
  rcases h2 with ⟨rfl, rfl⟩ | ⟨g, cap, cur, rfl, hb, hg, r1, r2, r3, r4⟩
  · exact ⟨F, .refl F, hw, none, 0, rfl, .inl (List.eq_nil_of_length_eq_zero (by rw [h1, Nat.zero_mul]))⟩
  · have hn : F g = none := hv.off g (by simp [Value.ownBlock])
    refine ⟨upd F g (.cells cur T (0, 0)), Ext.upd hn _, ⟨fun b o h => ?_, fun b h => ?_⟩, _, _, rfl, .inr ⟨_, rfl, fun i u hu => ?_⟩⟩
    · by_cases e : b = g
      · subst e; rw [upd_self] at h; cases h; exact hg
      · rw [upd_ne _ e] at h; exact hw.ext b o h
    · rw [upd_ne _ (fun e => by subst e; exact hd _ h (by simp [Value.ownBlock]))]; exact hw.off b h
    · have hadd : (⟨g, 0, none⟩ : Addr).add i = ⟨g, i, none⟩ := by unfold Addr.add; split <;> simp_all
      rw [hadd, cellH_blk (upd_self _ _ _), ← Array.getElem?_toList]
      rw [← r4, List.getElem?_take] at hu
      split at hu
      · exact hu
      · cases hu
end
end Go.Proofs.Ytjkggiemnfigbaa.HL
end
section
set_option linter.unusedVariables false
set_option linter.unusedSimpArgs false
set_option linter.unusedSectionVars false
namespace Go.Proofs.Ytjkggiemnfigbaa.HL
open Go Go.Proofs.YtjkggiemnfigbaaNum Go.Proofs.Ytjkggiemnfigbaa.FEv
theorem inf22 : (Try.prog.info? 22).map (fun i => (i.zero, i.size, i.bytes)) = some (some (.int .u64 0), 1, 8) := by kernel_rfl
theorem inf32 : (Try.prog.info? 23).map (fun i => (i.zero, i.size, i.bytes)) = some (some (.slice none 0 0), 1, 24) := by kernel_rfl
section
variable {p : Nat} [NeZero p]
def vs (l : List (Fin p)) : List Int := l.map V
def ms (m : List (List (Fin p))) : List (List Int) := m.map vs
@[simp] theorem vs_length (l : List (Fin p)) : (vs l).length = l.length := by simp [vs]
@[simp] theorem ms_length (m : List (List (Fin p))) : (ms m).length = m.length := by simp [ms]
theorem vs_get (l : List (Fin p)) (j : Nat) : (vs l).getD j 0 = V (cf l j) := by
  unfold vs cf
  rw [List.getD_eq_getElem?_getD, List.getD_eq_getElem?_getD, List.getElem?_map]
  cases l[j]? <;> rfl
theorem ms_get (m : List (List (Fin p))) (j : Nat) : (ms m).getD j [] = vs (rowL m j) := by
  unfold ms rowL
  rw [List.getD_eq_getElem?_getD, List.getD_eq_getElem?_getD, List.getElem?_map]
  cases m[j]? <;> rfl
theorem vs_inj {l l' : List (Fin p)} (h : vs l = vs l') : l = l' := by
  unfold vs at h
  exact (List.map_inj_right (fun a b h => V_inj.1 h)).1 h
theorem take_succ_map {α β : Type} (f : α → β) {l : List α} {j : Nat} (h : j < l.length) (d : α) : (l.take (j + 1)).map f = (l.take j).map f ++ [f (l.getD j d)] := by
  have : l.take (j + 1) = l.take j ++ [l.getD j d] := by
    rw [List.take_add_one, List.getElem?_eq_getElem h, List.getD_eq_getElem?_getD, List.getElem?_eq_getElem h]
    rfl
  rw [this, List.map_append]
  rfl
theorem us_snoc (l : List Int) (x : Int) : us (l ++ [x]) = us l ++ [.int .u64 x] := by simp [us]
theorem vs_snoc (l : List (Fin p)) (x : Fin p) : vs (l ++ [x]) = vs l ++ [V x] := by simp [vs]
def Sm (m : List (List (Fin p))) : Prop := m.length ≤ 1000 ∧ ∀ r ∈ m, r.length ≤ 1000
theorem Sm.sz {m : List (List (Fin p))} (h : Sm m) : Sz (ms m) := ⟨by rw [ms_length]; have := h.1; unfold maxLen; omega, fun r hr => by
  obtain ⟨a, ha, rfl⟩ := List.mem_map.1 hr
  have := h.2 a ha
  rw [vs_length]; unfold maxLen; omega⟩
theorem Sm.row {m : List (List (Fin p))} (h : Sm m) {j : Nat} (hj : j < m.length) : (rowL m j).length ≤ 1000 := h.2 _ (by rw [rowL_lt hj]; exact List.getElem_mem hj)
section
variable {base : Nat} {H : HH} {K : Value → HH → Prop} {A A' : Option Addr} {n n' c c' : Nat}
theorem Own.row {n : Nat} {l : List Int} (h : Own base H 22 1 (.slice A n c) n (us l)) : Row H A n l := by
  obtain ⟨A', c', e, _, h2⟩ := h.slice
  cases e
  exact ⟨by have := h.1; rw [us_length] at this; omega, h2⟩
end
end
end Go.Proofs.Ytjkggiemnfigbaa.HL
end
section
set_option linter.unusedVariables false
set_option linter.unusedSimpArgs false
set_option linter.unusedSectionVars false
namespace Go.Proofs.Ytjkggiemnfigbaa.HL
open Go Go.Proofs.YtjkggiemnfigbaaNum Go.Proofs.Ytjkggiemnfigbaa.FEv
section
variable {P : Program} {base : Nat} {H F : HH}
theorem Own.at {e n c : Nat} {A : Option Addr} {xs : List Value} (h : Own base H e 1 (.slice A n c) n xs) {j : Nat} (hj : j < n) : ∃ g cur, A = some ⟨g, 0, none⟩ ∧ base ≤ g ∧ H g = some (.cells cur e (0, 0)) ∧ j < cur.size ∧ ∀ (i : Nat) (u : Value), xs[i]? = some u → cur[i]? = some u := by
  obtain ⟨g, cap, cur, e1, e2, e3, e4, e5, e6⟩ := h.form (by omega)
  cases e1
  exact ⟨g, cur, rfl, e2, e3, by omega, e6⟩
theorem aq_own {t e : Nat} (ht : P.underlying t = some (.slice e)) (hs : (P.info? e).map (·.size) = some 1) {g n c : Nat} {k : IntKind} {j : Nat} (hj : j < n) : AQ P (Instr.indexAt t (.slice (some ⟨g, 0, none⟩) n c) (.int k j)) (.pointer (some ⟨g, j, none⟩)) := by
  have := aq_ix (ad := ⟨g, 0, none⟩) (c := c) (k := k) ht hs (i := j) (by omega) (n := n) (by omega)
  have e : (⟨g, 0, none⟩ : Addr).add ((j : Int).toNat * 1) = ⟨g, j, none⟩ := by rw [Int.toNat_natCast, Nat.mul_one]; unfold Addr.add; split <;> simp_all
  rwa [e] at this
theorem Frz.upd {v : Value} (h : Frz F H v) {g : Nat} (hg : F g = none) (o : Obj) : Frz F (upd H g o) v :=
  ⟨fun b x hx => by rw [upd_ne _ (fun e => by rw [e, hg] at hx; cases hx)]; exact h.ext b x hx, h.off⟩
end
/-- A matrix of the call's own, its rows frozen in F. -/
def OwnM (base : Nat) (F H : HH) (v : Value) (n : Nat) (m : List (List Int)) : Prop :=
  ∃ rs : List Value, Own base H 23 1 v n rs ∧ Frz F H v ∧ rs.length = m.length ∧ ∀ (i : Nat) (l : List Int), m[i]? = some l → ∃ A' c, rs[i]? = some (.slice A' l.length c) ∧ Rd F A' (us l)
section
variable {base : Nat} {H F : HH} {A : Option Addr} {n c : Nat} {m : List (List Int)}
theorem OwnM.mat (h : OwnM base F H (.slice A n c) n m) : Mat H A n m := by
  obtain ⟨rs, h1, h2, h3, h4⟩ := h
  obtain ⟨A', c', e, _, h5⟩ := h1.slice
  cases e
  refine ⟨by have := h1.1; omega, rs, h3, h5, fun i l hl => ?_⟩
  obtain ⟨A1, c1, h6, h7⟩ := h4 i l hl
  exact ⟨A1, c1, h6, h7.ext h2.ext⟩
theorem OwnM.nil (base : Nat) (H : HH) : OwnM base H H (.slice none 0 0) 0 [] := ⟨[], Own.nil _ _ _ _, Frz.nil _, rfl, fun i l h => by simp at h⟩
theorem OwnM.froze {F' : HH} {v : Value} (h : OwnM base F H v n m) (he : Ext F F') (hf : Frz F' H v) : OwnM base F' H v n m := by
  obtain ⟨rs, h1, h2, h3, h4⟩ := h
  exact ⟨rs, h1, hf, h3, fun i l hl => by obtain ⟨A1, c1, h6, h7⟩ := h4 i l hl; exact ⟨A1, c1, h6, h7.ext he⟩⟩
/-- A row that is frozen is pushed. -/
theorem h_pushM {K : Option Addr → Nat → Nat → HH → Prop} {v : Value} (h : OwnM base F H v n m) (hlim : n ≤ 1000) {A1 : Option Addr} {n1 c1 : Nat} {l : List Int} (hr : Row F A1 n1 l)
    (hk : ∀ A' c' H', OwnM base F H' (.slice A' (n + 1) c') (n + 1) (m ++ [l]) → Grows H H' v (.slice A' (n + 1) c') → K A' (n + 1) c' H') {ty : Nat} :
    HRun Try.prog base (Instr.buildSlice 28 1 #[(0, .slice A1 n1 c1)]) H fun v1 H1 => ∃ (A : Option Addr) (l c : Nat), v1 = .slice A l c ∧ HRun Try.prog base (Builtin.append_ #[28, 28] ty #[v, .slice A l c]) H1 fun v2 H2 => ∃ (A' : Option Addr) (l' c' : Nat), v2 = .slice A' l' c' ∧ K A' l' c' H2 := by
  obtain ⟨rs, h1, h2, h3, h4⟩ := h
  refine h_push un23 inf32 rfl (by decide) rfl h1 (by omega) (fun A3 c3 H3 ho3 g3 => hk _ _ _ ⟨_, ho3, h2.grow g3, by simp [h3], fun i l' hl => ?_⟩ g3)
  rcases Nat.lt_or_ge i m.length with hi | hi
  · rw [List.getElem?_append_left hi] at hl
    obtain ⟨A4, c4, h6, h7⟩ := h4 i l' hl
    exact ⟨A4, c4, by rw [List.getElem?_append_left (by omega)]; exact h6, h7⟩
  · have hi' : i = m.length := by
      have := (List.getElem?_eq_some_iff.1 hl).1
      rw [List.length_append, List.length_singleton] at this
      omega
    subst hi'
    rw [List.getElem?_append_right (Nat.le_refl _)] at hl
    simp at hl
    subst hl
    refine ⟨A1, c1, ?_, hr.2⟩
    rw [← h3, List.getElem?_append_right (Nat.le_refl _)]
    simp [hr.1]
end
section
end
end Go.Proofs.Ytjkggiemnfigbaa.HL
end
section
set_option linter.unusedVariables false
set_option linter.unusedSimpArgs false
set_option linter.unusedSectionVars false
namespace Go.Proofs.Ytjkggiemnfigbaa.HL
open Go Go.Proofs.YtjkggiemnfigbaaNum Go.Proofs.Ytjkggiemnfigbaa.FEv
theorem OwnM.more {base : Nat} {F H H' : HH} {v : Value} {n : Nat} {m : List (List Int)} (h : OwnM base F H v n m) (he : Ext H H') : OwnM base F H' v n m := by
  obtain ⟨rs, h1, h2, h3, h4⟩ := h
  exact ⟨rs, h1.ext he, h2.more he, h3, h4⟩
theorem OwnM.known {base : Nat} {F H : HH} {v : Value} {n : Nat} {m : List (List Int)} (h : OwnM base F H v n m) {b : Nat} (hb : v.ownBlock = some b) : H b ≠ none := by
  obtain ⟨rs, h1, h2, h3, h4⟩ := h
  obtain ⟨_, cur, hc⟩ := h1.known hb
  rw [hc]; simp
theorem OwnM.frz {base : Nat} {F H : HH} {v : Value} {n : Nat} {m : List (List Int)} (h : OwnM base F H v n m) : Frz F H v := h.elim fun _ h => h.2.1
/-- A row built since H: it is frozen, and pushed onto the matrix. -/
theorem h_pushR2 {base : Nat} {F H H2 : HH} {v : Value} {n : Nat} {m : List (List Int)} (h : OwnM base F H v n m) (hlim : n ≤ 1000) {A1 : Option Addr} {n1 c1 : Nat} {l : List Int} (hf : Frz H H2 (.slice A1 n1 c1)) (hr : Own base H2 22 1 (.slice A1 n1 c1) n1 (us l))
    {K : Option Addr → Nat → Nat → HH → Prop} (hk : ∀ F' A' c' H', Ext F F' → OwnM base F' H' (.slice A' (n + 1) c') (n + 1) (m ++ [l]) → K A' (n + 1) c' H') {ty : Nat} :
    HRun Try.prog base (Instr.buildSlice 28 1 #[(0, .slice A1 n1 c1)]) H2 fun v1 H1 => ∃ (A : Option Addr) (l c : Nat), v1 = .slice A l c ∧ HRun Try.prog base (Builtin.append_ #[28, 28] ty #[v, .slice A l c]) H1 fun v2 H2 => ∃ (A' : Option Addr) (l' c' : Nat), v2 = .slice A' l' c' ∧ K A' l' c' H2 := by
  have h2 := h.more hf.ext
  obtain ⟨F', hFF, hfz', A4, c4, e4, hrd⟩ := freeze h2.frz (Frz.mk (h.frz.ext.trans hf.ext) (fun b hb => h.frz.ext.none (hf.off b hb))) hr (fun b hb hb' => h.known hb (hf.off b hb'))
  cases e4
  have e := hr.1
  rw [us_length] at e
  exact h_pushM (h2.froze hFF hfz') hlim ⟨by omega, hrd⟩ (fun A' c' H' h3 _ => hk F' A' c' H' hFF h3)
section
variable {p : Nat} [NeZero p] {base : Nat} {H : HH} {K : Value → HH → Prop} {A A' : Option Addr} {n n' c c' : Nat}
theorem ms_snoc (m : List (List (Fin p))) (r : List (Fin p)) : ms (m ++ [r]) = ms m ++ [vs r] := by simp [ms]
/-- What a product asks of its factors. -/
def fits (a b : List (List (Fin p))) : Prop := (∀ r ∈ a, r.length = (rowL a 0).length) ∧ (∀ r ∈ b, r.length = (rowL b 0).length) ∧ (rowL a 0).length = b.length
end
end Go.Proofs.Ytjkggiemnfigbaa.HL
end
section
set_option linter.unusedVariables false
set_option linter.unusedSimpArgs false
set_option linter.unusedSectionVars false
namespace Go.Proofs.Ytjkggiemnfigbaa.HL
open Go Go.Proofs.YtjkggiemnfigbaaNum Go.Proofs.Ytjkggiemnfigbaa.FEv
theorem QRun.ext {α : Type} {P : Program} {s : Sem α} {H H' : HH} {v : α} (h : QRun P s H v) (he : Ext H H') : QRun P s H' v := fun W hs => h W (fun b o hb => hs b o (he b o hb))
theorem add0 (g j : Nat) : (⟨g, 0, none⟩ : Addr).add j = ⟨g, j, none⟩ := by unfold Addr.add; split <;> simp_all
section
variable {p : Nat} [NeZero p] {base : Nat} {H : HH} {K : Value → HH → Prop} {A A' : Option Addr} {n n' c c' : Nat}
theorem us_set (l : List Int) (i : Nat) (x : Int) : (us l).set i (.int .u64 x) = us (l.set i x) := by simp [us, List.map_set]
end
end Go.Proofs.Ytjkggiemnfigbaa.HL
end

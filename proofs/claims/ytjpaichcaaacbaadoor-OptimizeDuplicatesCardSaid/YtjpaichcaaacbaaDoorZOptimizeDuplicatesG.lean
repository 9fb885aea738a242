/- Part G of: The statement OptimizeDuplicates: the law answers true whatever its arguments; no condition. -/
import Derived.Test.YtjpaichcaaacbaaDoorZOptimizeDuplicatesF
import Derived.Maps.AppendAt
import Derived.Laws.MakeOwn
import Derived.Laws.OwnMore
import Derived.KernelRfl
import Derived.Laws.Rows
import Derived.Test.YtjpaichcaaacbaaDoorProg
import Derived.Laws.Cells
import Derived.Laws.Entries
section
set_option linter.unusedSimpArgs false
set_option linter.unusedVariables false
namespace Go.Proofs.YtjpaichcaaacbaaDoor.HL
open Go
theorem alloc_old (w : World) (o : Obj) (i : Nat) (h : i < w.heap.size) : (w.alloc o).heap[i]? = w.heap[i]? := by first | exact heap_alloc_old w o i h | exact heap_alloc_old w o h
def cellH (H : HH) (a : Addr) : Option Value :=
  match H a.block with
  | some (.cells c _ _) => if a.spot.isSome then none else c[a.off]?
  | _ => none
theorem cellH_sat {H : HH} {W : World} {a : Addr} {v : Value} (hs : Sat H W) (h : cellH H a = some v) : W.cell? a = some v := by
  unfold cellH at h
  cases hb : H a.block with
  | none => rw [hb] at h; cases h
  | some o =>
    rw [hb] at h
    unfold World.cell?
    rw [hs _ _ hb]
    exact h
/-- All that is known stays known. -/
def Ext (H H' : HH) : Prop := ∀ b o, H b = some o → H' b = some o
theorem Ext.refl (H : HH) : Ext H H := fun _ _ h => h
theorem Ext.trans {A B C : HH} (h : Ext A B) (k : Ext B C) : Ext A C := fun b o hb => k b o (h b o hb)
theorem upd_self (H : HH) (b : Nat) (o : Obj) : upd H b o b = some o := by simp [upd]
theorem upd_ne {H : HH} {b k : Nat} (o : Obj) (h : k ≠ b) : upd H b o k = H k := by simp [upd, h]
theorem Ext.upd {H : HH} {b : Nat} (h : H b = none) (o : Obj) : Ext H (upd H b o) := fun k x hk => by
  rw [upd_ne o (fun e => by rw [e, h] at hk; cases hk)]
  exact hk
theorem Ext.none {H H' : HH} (h : Ext H H') {b : Nat} (hb : H' b = none) : H b = none := by
  cases hh : H b with
  | none => rfl
  | some o => rw [h b o hh] at hb; cases hb
theorem cellH_ext {H H' : HH} (h : Ext H H') {a : Addr} {v : Value} (hc : cellH H a = some v) : cellH H' a = some v := by
  unfold cellH at hc ⊢
  cases hb : H a.block with
  | none => rw [hb] at hc; cases hc
  | some o => rw [hb] at hc; rw [h _ _ hb]; exact hc
theorem cellH_blk {H : HH} {b i T : Nat} {cs : Array Value} {z : Nat × Nat} (h : H b = some (.cells cs T z)) : cellH H ⟨b, i, none⟩ = cs[i]? := by simp [cellH, h]
section
variable {P : Program} {base : Nat} {H : HH}
theorem HRun.mono {α : Type} {s : Sem α} {K K' : α → HH → Prop} (h : HRun P base s H K) (hk : ∀ v H', K v H' → K' v H') : HRun P base s H K' := fun W hs hb => by
  obtain ⟨v, W', H', hr, hK, hto⟩ := h W hs hb
  exact ⟨v, W', H', hr, hk _ _ hK, hto⟩
theorem QRun.h {α : Type} {s : Sem α} {v : α} {K : α → HH → Prop} (h : QRun P s H v) (hk : K v H) : HRun P base s H K := fun W hs hb => ⟨v, W, H, h W hs, hk, .refl hs⟩
theorem HCall.use {f : FuncId} {args : Array Value} {Q K : Value → HH → Prop} (h : HCall P base f args H Q) (hk : ∀ v H', Q v H' → K v H') : HCall P base f args H K :=
  ⟨h.enter, fun W hs hb => (h.run W hs hb).mono (fun e W' ⟨v, H', he, hQ, hto⟩ => ⟨v, H', he, hk _ _ hQ, hto⟩)⟩
theorem HCall.less {f : FuncId} {args : Array Value} {Q : Value → HH → Prop} (h : HCall P base f args H (fun v H' => Ext H H' ∧ Q v H)) : HCall P base f args H (fun v H' => H' = H ∧ Q v H) :=
  ⟨h.enter, fun W hs hb => (h.run W hs hb).mono (fun e W' ⟨v, H', he, hQ, hto⟩ => ⟨v, H, he, ⟨rfl, hQ.2⟩, hto.less hQ.1⟩)⟩
theorem HRun.less {α : Type} {s : Sem α} {K : α → HH → Prop} (h : HRun P base s H (fun v H' => ∃ H2, Ext H2 H' ∧ K v H2)) : HRun P base s H K := fun W hs hb => by
  obtain ⟨v, W', H', hr, ⟨H2, he, hK⟩, hto⟩ := h W hs hb
  exact ⟨v, W', H2, hr, hK, hto.less he⟩
theorem run_ti {t : TypeId} {i : TypeInfo} (h : P.info? t = some i) (W : World) : (typeInfo t).run P W = .ok i W := by
  unfold typeInfo
  simp [h]
theorem run_sz {t : TypeId} {n : Nat} (h : (P.info? t).map (·.size) = some n) (W : World) : (sizeOf t).run P W = .ok n W := by
  obtain ⟨i, hi, rfl⟩ := Option.map_eq_some_iff.1 h
  unfold sizeOf
  simp [run_ti hi]
def scalarB (P : Program) (t : TypeId) : Bool :=
  match P.underlying t with
  | some (.struct _) | some (.array _ _) | none => false
  | _ => true
def aggB (P : Program) (t : TypeId) : Bool :=
  match P.underlying t with
  | some (.struct _) | some (.array _ _) => true
  | _ => false
theorem run_isAgg_f {t : TypeId} (h : scalarB P t = true) (W : World) : (isAgg t).run P W = .ok false W := by
  unfold scalarB at h
  unfold isAgg
  cases hd : P.underlying t with
  | none => rw [hd] at h; cases h
  | some d =>
    rw [hd] at h
    rw [Sem.run_bind, run_under hd]
    cases d <;> simp_all
theorem run_isAgg_t {t : TypeId} (h : aggB P t = true) (W : World) : (isAgg t).run P W = .ok true W := by
  unfold aggB at h
  unfold isAgg
  cases hd : P.underlying t with
  | none => rw [hd] at h; cases h
  | some d =>
    rw [hd] at h
    rw [Sem.run_bind, run_under hd]
    cases d <;> simp_all
theorem q_ld {t : Nat} (ht : scalarB P t = true) {a : Addr} {v : Value} (hc : cellH H a = some v) : QRun P (Instr.loadAt t (.pointer (some a))) H v := fun W hs => by
  simp [Instr.loadAt, Instr.sureAddr, loadVar, run_isAgg_f ht, cellH_sat hs hc]
theorem q_lda {t : Nat} (ht : aggB P t = true) {a : Addr} {cs : List Value} (hz : (P.info? t).map (·.size) = some cs.length) (hc : ∀ j u, cs[j]? = some u → cellH H (a.add j) = some u) : QRun P (Instr.loadAt t (.pointer (some a))) H (.agg cs.toArray) := fun W hs => by
  simp [Instr.loadAt, Instr.sureAddr, loadVar, run_isAgg_t ht, run_sz hz, run_loadCells_list (P := P) W a cs (fun j v hv => cellH_sat hs (hc j v hv))]
theorem h_new {α : Type} {s : Sem α} {f : Nat → α} {o : Obj} {K : α → HH → Prop} (hr : ∀ W : World, s.run P W = .ok (f W.heap.size) (W.alloc o)) (h : ∀ b, H b = none → base ≤ b → K (f b) (upd H b o)) : HRun P base s H K := fun W hs hb => by
  have hn : H W.heap.size = none := by
    cases hh : H W.heap.size with
    | none => rfl
    | some x => have := hs _ _ hh; simp at this
  refine ⟨_, _, _, hr W, h W.heap.size hn hb, ⟨rfl, rfl, rfl, by simp, fun k hk _ => alloc_old W o k hk, fun b x hx => ?_, fun k hk h => ?_⟩⟩
  · by_cases e : b = W.heap.size
    · subst e; rw [upd_self] at hx; cases hx; exact heap_alloc_new W o
    · rw [upd_ne o e] at hx
      have := hs _ _ hx
      rw [alloc_old W o b (Array.getElem?_eq_some_iff.1 this).1]
      exact this
  · rw [upd_ne o (by omega)]; exact h
theorem h_box {t : Nat} {v : Value} {K : Value → HH → Prop} (h : ∀ b, H b = none → base ≤ b → K (.pointer (some ⟨b, 0, none⟩)) (upd H b (.cells v.cells t))) : HRun P base (Instr.box t v) H K :=
  h_new (o := .cells v.cells t) (f := fun b => .pointer (some ⟨b, 0, none⟩)) (fun W => by simp [Instr.box, newVar, newRow]) h
theorem h_alloc {t : Nat} {z : Value} {old : Value} {K : Value → HH → Prop} (hz : (P.info? t).bind (·.zero) = some z) (h : ∀ b, H b = none → base ≤ b → K (.pointer (some ⟨b, 0, none⟩)) (upd H b (.cells z.cells t))) : HRun P base (Instr.alloc t true old) H K :=
  h_new (o := .cells z.cells t) (f := fun b => .pointer (some ⟨b, 0, none⟩)) (fun W => by
    obtain ⟨i, hi, hz'⟩ := Option.bind_eq_some_iff.1 hz
    simp [Instr.alloc, newVar, newRow, zeroValue, run_ti hi, hz']) h
theorem h_make {t e sz by_ : Nat} {z : Value} (ht : P.underlying t = some (.slice e)) (hi : (P.info? e).map (fun i => (i.zero, i.size, i.bytes)) = some (some z, sz, by_)) {k1 k2 : IntKind} {n : Int} {K : Value → HH → Prop} (h0 : 0 ≤ n) (hb : (by_ : Int) * n ≤ 281474976710656) (hm : n ≤ 9223372036854775807)
    (h : ∀ b, H b = none → base ≤ b → K (.slice (some ⟨b, 0, none⟩) n.toNat n.toNat) (upd H b (.cells (madeCells z.cells (n.toNat * sz)) e))) : HRun P base (Instr.makeSlice t (.int k1 n) (.int k2 n)) H K := by
  obtain ⟨i, hi', hzz⟩ := Option.map_eq_some_iff.1 hi
  simp only [Prod.mk.injEq] at hzz
  obtain ⟨e1, e2, e3⟩ := hzz
  subst e2
  exact h_new (o := .cells (madeCells z.cells (n.toNat * i.size)) e) (f := fun b => .slice (some ⟨b, 0, none⟩) n.toNat n.toNat) (fun W => run_make W t e i z ht hi' e1 k1 k2 n n h0 (Int.le_refl _) (by rw [e3]; exact hb) hm) h
theorem h_do {α : Type} {s : Sem α} {K : α → HH → Prop} {b T : Nat} {cs cs' : Array Value} {v : α} (hb : H b = some (.cells cs T (0, 0))) (hbase : base ≤ b) (hsz : cs'.size = cs.size)
    (hr : ∀ W : World, Sat H W → ∃ W', s.run P W = .ok v W' ∧ W'.os = W.os ∧ W'.tape = W.tape ∧ W'.output = W.output ∧ W'.heap.size = W.heap.size ∧ (∀ k, k ≠ b → W'.heap[k]? = W.heap[k]?) ∧ W'.heap[b]? = some (.cells cs' T (0, 0)))
    (h : K v (upd H b (.cells cs' T (0, 0)))) : HRun P base s H K := fun W hs hb' => by
  obtain ⟨W', h1, h2, h3, h4, h5, h6, h7⟩ := hr W hs
  refine ⟨v, W', _, h1, h, ⟨h2, h3, h4, by omega, fun k hk hn => h6 k (fun e => ?_), fun k o hk => ?_, fun k hk hn => ?_⟩⟩
  · subst e
    rcases hn with hn | hn
    · omega
    · rw [hb] at hn; cases hn
  · by_cases e : k = b
    · subst e; rw [upd_self] at hk; cases hk; exact h7
    · rw [upd_ne _ e] at hk; rw [h6 k e]; exact hs k o hk
  · rw [upd_ne _ (fun e => by subst e; rw [hb] at hn; cases hn)]; exact hn
theorem h_st {t b i T : Nat} {cs : Array Value} {v : Value} {K : Unit → HH → Prop} (hz : (P.info? t).map (·.size) = some 1) (h1 : v.oneCell' = true) (hb : H b = some (.cells cs T (0, 0))) (hbase : base ≤ b) (hi : i < cs.size)
    (h : K () (upd H b (.cells (cs.setIfInBounds i v) T (0, 0)))) : HRun P base (Instr.storeAt t (.pointer (some ⟨b, i, none⟩)) v) H K := by
  refine h_do (cs' := cs.setIfInBounds i v) hb hbase (by simp) (fun W hs => ?_) h
  have hw := hs b _ hb
  have hc : W.cell? ⟨b, i, none⟩ = some cs[i] := by simp [World.cell?, hw, hi]
  have hf : W.frozen? ⟨b, i, none⟩ = false := by simp [World.frozen?, hw]
  have hv : v.cells = #[v] := by cases v <;> first | rfl | (simp [Value.oneCell'] at h1)
  refine ⟨W.setCell ⟨b, i, none⟩ v, ?_, rfl, rfl, rfl, by simp [World.setCell], fun k hk => ?_, ?_⟩
  · simp [Instr.storeAt, Instr.sureAddr, storeVar, hv, run_sz hz, storeCells, run_store P W ⟨b, i, none⟩ v .plain h1, hc, hf, Addr.add]
  · simp only [World.setCell, Array.getElem?_modify]; rw [if_neg (by exact fun e => hk e.symm)]
  · simp only [World.setCell, Array.getElem?_modify, if_true, hw, Option.map_some]; rfl
end
end Go.Proofs.YtjpaichcaaacbaaDoor.HL
end
section
set_option linter.unusedSimpArgs false
set_option linter.unusedVariables false
namespace Go.Proofs.YtjpaichcaaacbaaDoor.HL
open Go
/-- From ad on the cells xs lie. -/
def Rd (H : HH) (A : Option Addr) (xs : List Value) : Prop := xs = [] ∨ ∃ ad, A = some ad ∧ ∀ i u, xs[i]? = some u → cellH H (ad.add i) = some u
theorem Rd.ext {H H' : HH} {A : Option Addr} {xs : List Value} (h : Rd H A xs) (he : Ext H H') : Rd H' A xs := h.imp id (fun ⟨ad, e, hc⟩ => ⟨ad, e, fun i u hu => cellH_ext he (hc i u hu)⟩)
theorem Rd.nil (H : HH) (A : Option Addr) : Rd H A [] := .inl rfl
theorem Rd.get {H : HH} {A : Option Addr} {xs : List Value} (h : Rd H A xs) {i : Nat} {u : Value} (hu : xs[i]? = some u) : ∃ ad, A = some ad ∧ cellH H (ad.add i) = some u := by
  rcases h with rfl | ⟨ad, e, hc⟩
  · simp at hu
  · exact ⟨ad, e, hc i u hu⟩
/-- A row of n elements (type T, sz cells each) in a block of the call's own, from its head on; or nil. -/
def Own (base : Nat) (H : HH) (T sz : Nat) (v : Value) (n : Nat) (xs : List Value) : Prop :=
  xs.length = n * sz ∧ ((v = .slice none 0 0 ∧ n = 0) ∨
    ∃ g cap cur, v = .slice (some ⟨g, 0, none⟩) n cap ∧ base ≤ g ∧ H g = some (.cells cur T (0, 0)) ∧ n ≤ cap ∧ cap ≤ maxLen ∧ cur.size = cap * sz ∧ cur.toList.take (n * sz) = xs)
section
variable {base : Nat} {H H' : HH} {T sz n : Nat} {v : Value} {xs : List Value}
theorem Own.nil (base : Nat) (H : HH) (T sz : Nat) : Own base H T sz (.slice none 0 0) 0 [] := ⟨by simp, .inl ⟨rfl, rfl⟩⟩
theorem Own.move (h : Own base H T sz v n xs) (hm : ∀ g o, v.ownBlock = some g → H g = some o → H' g = some o) : Own base H' T sz v n xs := by
  obtain ⟨h1, h2⟩ := h
  refine ⟨h1, h2.imp id ?_⟩
  rintro ⟨g, cap, cur, rfl, hb, hg, r⟩
  exact ⟨g, cap, cur, rfl, hb, hm g _ rfl hg, r⟩
theorem Own.ext (h : Own base H T sz v n xs) (he : Ext H H') : Own base H' T sz v n xs := h.move (fun g o _ hg => he g o hg)
theorem Own.known (h : Own base H T sz v n xs) {g : Nat} (hg : v.ownBlock = some g) : base ≤ g ∧ ∃ cur, H g = some (.cells cur T (0, 0)) := by
  rcases h.2 with ⟨rfl, _⟩ | ⟨g', cap, cur, rfl, hb, hh, _⟩
  · simp [Value.ownBlock] at hg
  · have : g' = g := by simpa [Value.ownBlock] using hg
    subst this
    exact ⟨hb, cur, hh⟩
theorem Own.sat (h : Own base H T sz v n xs) {W : World} (hs : Sat H W) : W.ownsRow base T sz v n xs := by
  obtain ⟨h1, h2⟩ := h
  refine ⟨h1, h2.imp id ?_⟩
  rintro ⟨g, cap, cur, rfl, hb, hg, r⟩
  exact ⟨g, cap, cur, rfl, hb, hs _ _ hg, r⟩
theorem Own.slice (h : Own base H T sz v n xs) : ∃ A c, v = .slice A n c ∧ n ≤ c ∧ Rd H A xs := by
  obtain ⟨h1, h2⟩ := h
  rcases h2 with ⟨rfl, rfl⟩ | ⟨g, cap, cur, rfl, hb, hg, hc, _, _, ht⟩
  · exact ⟨_, _, rfl, Nat.le_refl _, .inl (List.eq_nil_of_length_eq_zero (by rw [h1, Nat.zero_mul]))⟩
  · refine ⟨_, _, rfl, hc, .inr ⟨_, rfl, fun i u hu => ?_⟩⟩
    have hadd : (⟨g, 0, none⟩ : Addr).add i = ⟨g, i, none⟩ := by unfold Addr.add; split <;> simp_all
    rw [hadd, cellH_blk hg]
    rw [← ht, List.getElem?_take] at hu
    split at hu
    · simpa using hu
    · cases hu
/-- The block, where there is one. -/
theorem Own.form (h : Own base H T sz v n xs) (hn : 0 < n) : ∃ g cap cur, v = .slice (some ⟨g, 0, none⟩) n cap ∧ base ≤ g ∧ H g = some (.cells cur T (0, 0)) ∧ n ≤ cap ∧ cur.size = cap * sz ∧ (∀ (i : Nat) (u : Value), xs[i]? = some u → cur[i]? = some u) := by
  obtain ⟨h1, h2⟩ := h
  rcases h2 with ⟨rfl, rfl⟩ | ⟨g, cap, cur, rfl, hb, hg, hc, _, hz, ht⟩
  · omega
  · refine ⟨g, cap, cur, rfl, hb, hg, hc, hz, fun i u hu => ?_⟩
    rw [← ht, List.getElem?_take] at hu
    split at hu
    · simpa using hu
    · cases hu
/-- A store into the block. -/
theorem Own.put (h : Own base H T sz v n xs) {g : Nat} (hg : v.ownBlock = some g) {cur : Array Value} (hc : H g = some (.cells cur T (0, 0))) (i : Nat) (u : Value) : Own base (upd H g (.cells (cur.setIfInBounds i u) T (0, 0))) T sz v n (xs.set i u) := by
  obtain ⟨h1, h2⟩ := h
  refine ⟨by rw [List.length_set]; exact h1, h2.imp id ?_⟩
  rintro ⟨g', cap, cur', rfl, hb, hg', r1, r2, r3, r4⟩
  have : g' = g := by simpa [Value.ownBlock] using hg
  subst this
  rw [hc] at hg'
  cases hg'
  exact ⟨g', cap, _, rfl, hb, upd_self _ _ _, r1, r2, by simpa using r3, by rw [Array.toList_setIfInBounds, ← r4, List.take_set]⟩
theorem Own.far (h : Own base H T sz v n xs) {g : Nat} (hg : v.ownBlock ≠ some g) (o : Obj) : Own base (upd H g o) T sz v n xs := h.move (fun k x hk hx => by rw [upd_ne _ (fun e => hg (by rw [hk, e]))]; exact hx)
theorem Own.lit {b : Nat} (hb : base ≤ b) (cs : Array Value) (n : Nat) (hm : n ≤ maxLen) (hs : cs.size = n * sz) : Own base (upd H b (.cells cs T (0, 0))) T sz (.slice (some ⟨b, 0, none⟩) n n) n cs.toList :=
  ⟨by simpa using hs, .inr ⟨b, n, cs, rfl, hb, upd_self _ _ _, Nat.le_refl _, hm, hs, List.take_of_length_le (by rw [Array.length_toList, hs]; exact Nat.le_refl _)⟩⟩
theorem Own.take {g c : Nat} (h : Own base H T sz (.slice (some ⟨g, 0, none⟩) n c) n xs) {m : Nat} (hm : m ≤ n) : Own base H T sz (.slice (some ⟨g, 0, none⟩) m c) m (xs.take (m * sz)) := by
  obtain ⟨h1, h2⟩ := h
  rcases h2 with ⟨h2, _⟩ | ⟨g', cap, cur, e, hb, hg, r1, r2, r3, r4⟩
  · cases h2
  · cases e
    refine ⟨?_, .inr ⟨g, c, cur, rfl, hb, hg, by omega, r2, r3, ?_⟩⟩
    · rw [List.length_take, h1]; exact Nat.min_eq_left (Nat.mul_le_mul_right _ hm)
    · rw [← r4, List.take_take, Nat.min_eq_left (Nat.mul_le_mul_right _ hm)]
end
/-- What is known but for the block of v; and of v' (v's block, or a new one). -/
structure Grows (H H' : HH) (v v' : Value) : Prop where
  keep : ∀ b o, v.ownBlock ≠ some b → H b = some o → H' b = some o
  at_ : v'.ownBlock = v.ownBlock ∨ ∀ b, v'.ownBlock = some b → H b = none
section
variable {P : Program} {base : Nat} {H : HH} {K : Value → HH → Prop}
theorem h_app {t e sz by_ ty : Nat} {z : Value} (ht : P.underlying t = some (.slice e)) (hi : (P.info? e).map (fun i => (i.zero, i.size, i.bytes)) = some (some z, sz, by_)) (hz : z.cells.size = sz) (hsz : 0 < sz)
    {v : Value} {n m c : Nat} {xs ys : List Value} {A : Option Addr} (ho : Own base H e sz v n xs) (hy : Rd H A ys) (hm : ys.length = m * sz) (h1 : ∀ u ∈ ys, u.oneCell' = true) (hA : A = none → m = 0) (hlim : n + m < 1099511627776) (hby : by_ ≤ 128)
    (h : ∀ A' c' H', Own base H' e sz (.slice A' (n + m) c') (n + m) (xs ++ ys) → Grows H H' v (.slice A' (n + m) c') → K (.slice A' (n + m) c') H') : HRun P base (Builtin.append_ #[t, t] ty #[v, .slice A m c]) H K := fun W hs hb => by
  obtain ⟨i, hi', hzz⟩ := Option.map_eq_some_iff.1 hi
  simp only [Prod.mk.injEq] at hzz
  obtain ⟨e1, e2, e3⟩ := hzz
  have hmem : ∀ j u, ys[j]? = some u → ∀ ad, A = some ad → W.cell? (ad.add j) = some u := fun j u hu ad e => by
    obtain ⟨ad', e', hc⟩ := hy.get hu
    rw [e] at e'; cases e'
    exact cellH_sat hs hc
  have fin : ∀ v' W', (Builtin.append_ #[t, t] ty #[v, .slice A m c]).run P W = .ok v' W' → W'.ownsRow base e sz v' (n + m) (xs ++ ys) → W.grownBy W' v.ownBlock → (v'.ownBlock = v.ownBlock ∨ v'.ownBlock = some W.heap.size) →
      ∃ r_ W2 H2, (Builtin.append_ #[t, t] ty #[v, .slice A m c]).run P W = .ok r_ W2 ∧ K r_ H2 ∧ To base H W H2 W2 := fun v' W' hr hown hg hat => by
    obtain ⟨H', hH⟩ : ∃ H' : HH, H' = fun b => if v'.ownBlock = some b then W'.heap[b]? else if v.ownBlock = some b then none else H b := ⟨_, rfl⟩
    have hnew : H W.heap.size = none := by
      cases hh : H W.heap.size with
      | none => rfl
      | some x => have := hs _ _ hh; simp at this
    have hO : Own base H' e sz v' (n + m) (xs ++ ys) := by
      obtain ⟨h1, h2⟩ := hown
      refine ⟨h1, h2.imp id ?_⟩
      rintro ⟨g, cap, cur, rfl, hb, hg, r⟩
      exact ⟨g, cap, cur, rfl, hb, by rw [hH]; simp [Value.ownBlock, hg], r⟩
    obtain ⟨A', c', rfl, _⟩ := hO.slice
    have hat' : (Value.slice A' (n + m) c').ownBlock = v.ownBlock ∨ ∀ b, (Value.slice A' (n + m) c').ownBlock = some b → H b = none := hat.imp id (fun e b hb => by rw [e] at hb; cases hb; exact hnew)
    refine ⟨_, W', H', hr, h A' c' H' hO ⟨fun b o hb ho' => ?_, hat'⟩, ⟨hg.os, hg.tape, hg.output, hg.size, fun k hk hn => ?_, fun b o hb => ?_, fun k hk hn => ?_⟩⟩
    · rw [hH]
      dsimp only
      rw [if_neg (fun e => ?_), if_neg hb]
      · exact ho'
      · rcases hat' with h2 | h2
        · exact hb (h2.symm.trans e)
        · rw [h2 b e] at ho'; cases ho'
    · refine hg.block k hk (fun e => ?_)
      obtain ⟨h2, cur, h3⟩ := ho.known e.symm
      rcases hn with hn | hn
      · omega
      · rw [h3] at hn; cases hn
    · rw [hH] at hb
      dsimp only at hb
      split at hb
      · exact hb
      · split at hb
        · cases hb
        · rename_i h2 h3
          have := hs _ _ hb
          rw [hg.block b (Array.getElem?_eq_some_iff.1 this).1 (fun e => h3 e.symm)]
          exact this
    · rw [hH]
      dsimp only
      rw [if_neg (fun e => ?_)]
      · split
        · rfl
        · exact hn
      · rcases hat with h2 | h2
        · rw [h2] at e
          obtain ⟨_, cur, h3⟩ := ho.known e
          rw [h3] at hn; cases hn
        · rw [h2] at e; cases e; omega
  cases A with
  | none =>
    have hm0 : m = 0 := hA rfl
    subst hm0
    have hy0 : ys = [] := List.eq_nil_of_length_eq_zero (by rw [hm, Nat.zero_mul])
    subst hy0
    rcases (ho.sat hs).2 with ⟨hv, hn⟩ | ⟨g, cap, cur, hv, _, hg2, hnc, _⟩
    · have hr : (Builtin.append_ #[t, t] ty #[v, .slice none 0 c]).run P W = .ok v W := by
        subst hv; subst hn
        simp [Builtin.append_, run_under ht, sizeOf, typeInfo, hi', Builtin.lenOf, Builtin.firstCells]
      exact fin v W hr (by simpa using ho.sat hs) ⟨rfl, rfl, rfl, Nat.le_refl _, fun _ _ _ => rfl⟩ (.inl rfl)
    · have hr : (Builtin.append_ #[t, t] ty #[v, .slice none 0 c]).run P W = .ok v W := by
        subst hv
        simp [Builtin.append_, run_under ht, sizeOf, typeInfo, hi', Builtin.lenOf, Builtin.firstCells, hnc, storeCells]
      exact fin v W hr (by simpa using ho.sat hs) ⟨rfl, rfl, rfl, Nat.le_refl _, fun _ _ _ => rfl⟩ (.inl rfl)
  | some ad =>
    obtain ⟨v', W', hr, hown, hg, _, hat⟩ := run_append_own_at (P := P) W base t ty e i z sz by_ ht hi' e1 e2 e3 hz hsz v n xs (ho.sat hs) ad m c ys hm (fun j u hu => hmem j u hu ad rfl) h1 (by unfold maxLen; omega)
      (by calc (n + m) * by_ ≤ 1099511627776 * 128 := Nat.mul_le_mul (by omega) hby
          _ ≤ 140737488355328 := by omega) hb
    exact fin v' W' hr hown hg hat
theorem h_lit {t e sz n : Nat} {parts : Array (Nat × Value)} {z : Value} {cs : Array Value} (ht : P.underlying t = some (.slice e)) (hi : (P.info? e).map (fun i => (i.zero, i.size)) = some (some z, sz)) (hl : n * sz ≤ 16777216)
    (hf : Instr.fill (fun i => some (i * sz, sz)) (madeCells z.cells (n * sz)) parts.toList = some cs) (hn : 0 < n * sz)
    (h : ∀ b, H b = none → base ≤ b → K (.slice (some ⟨b, 0, none⟩) n n) (upd H b (.cells cs e))) : HRun P base (Instr.buildSlice t n parts) H K := by
  obtain ⟨i, hi', hzz⟩ := Option.map_eq_some_iff.1 hi
  simp only [Prod.mk.injEq] at hzz
  obtain ⟨e1, e2⟩ := hzz
  refine h_new (o := .cells cs e) (f := fun b => .slice (some ⟨b, 0, none⟩) n n) (fun W => ?_) h
  unfold madeCells at hf
  simp [Instr.buildSlice, run_under ht, sizeOf, zeroValue, run_ti hi', e1, e2, show ¬ (16777216 < n * sz) by omega, show ¬ (n * sz = 0) by omega, hf, newRow]
end
end Go.Proofs.YtjpaichcaaacbaaDoor.HL
end
section
set_option linter.unusedVariables false
namespace Go.Proofs.YtjpaichcaaacbaaDoor.HL
open Go Go.RowKit Go.Proofs.YtjpaichcaaacbaaDoorW.PrintWords Go.Proofs.YtjpaichcaaacbaaDoorW.PrintMore Go.Proofs.YtjpaichcaaacbaaDoor.PF Go.Proofs.YtjpaichcaaacbaaDoorNum Go.Proofs.YtjpaichcaaacbaaDoor.FEv
theorem enters {P : Program} {f : FuncId} {fn : Func} (hf : P.funcs[f]? = some fn) (hc : (fn.name != "runtime.NumGoroutine" && fn.body.isSome) = true) {args : Array Value} (W : World) : (callFunc f args).run P W = .ok (.enter f args) W := by
  simp only [Bool.and_eq_true, bne_iff_ne, ne_eq] at hc
  obtain ⟨hc1, hc2⟩ := hc
  obtain ⟨c, hb⟩ := Option.isSome_iff_exists.1 hc2
  simp [callFunc, hf, hb, hc1]
theorem To.below {base : Nat} {H : HH} {W W' : World} (hs : Sat H W) (h : Below W.heap.size W W') : To base H W H W' :=
  ⟨h.os, h.tape, h.output, h.size, fun k hk _ => h.block k hk, fun b o hb => (h.block b (Array.getElem?_eq_some_iff.1 (hs b o hb)).1).trans (hs b o hb), fun _ _ h => h⟩
theorem HCall.of {P : Program} {base : Nat} {f : FuncId} {args : Array Value} {H : HH} {v : Value} (he : ∀ W, (callFunc f args).run P W = .ok (.enter f args) W) (h : ∀ W, Calls P f args W fun e w' => e = .returned v ∧ Below W.heap.size W w') : HCall P base f args H fun v' H' => v' = v ∧ H' = H :=
  ⟨he, fun W hs hb => (h W).mono fun e W' ⟨h1, h2⟩ => ⟨v, H, h1, ⟨rfl, rfl⟩, .below hs h2⟩⟩
theorem HCall.to {P : Program} {base : Nat} {f : FuncId} {args : Array Value} {H : HH} {v : Value} {K : Value → HH → Prop} (h : HCall P base f args H fun v' H' => v' = v ∧ H' = H) (hk : K v H) : HCall P base f args H K :=
  h.use fun v' H' ⟨h1, h2⟩ => by subst h1; subst h2; exact hk
section
end
def supB (x : Int) : Bool := [31, 127, 8191, 131071, 524287, 2147483647, 2305843009213693951].contains x
theorem sup_ev (x : Int) : Ev (fun k => privityref01_Supported.f k x) (supB x) := by
  unfold privityref01_Supported.f privityref01_Exponent.f privityref01_exps.f
  simp only [Option.bind_some]
  have st : ∀ (j : Nat) (q pj : Int), j < 7 → rd [5, 7, 13, 17, 19, 31, 61] (j : Int) = q → IntKind.u64.wrap ((shl .u64 1 (IntKind.u64.wrap q)) - 1) = pj → 0 ≤ IntKind.u64.wrap q → ∀ k, privityref01_Exponent.l0 (k + 1) x [5, 7, 13, 17, 19, 31, 61] j = if x = pj then some q else privityref01_Exponent.l0 k x [5, 7, 13, 17, 19, 31, 61] ((j + 1 : Nat) : Int) := by
    intro j q pj hj h1 h2 h3 k
    rw [privityref01_Exponent.l0, if_pos (by simp; omega), if_pos (by omega), h1, if_pos h3, h2, show wrap64 ((j : Int) + 1) = ((j + 1 : Nat) : Int) by unfold wrap64; omega]
  refine ⟨8, fun k hk => ?_⟩
  obtain ⟨m, rfl⟩ : ∃ m, k = m + 1 + 1 + 1 + 1 + 1 + 1 + 1 + 1 := ⟨k - 8, by omega⟩
  have := st 0 5 31 (by decide) rfl (by decide) (by decide) (m + 1 + 1 + 1 + 1 + 1 + 1 + 1)
  rw [show ((0 : Nat) : Int) = 0 from rfl] at this
  dsimp only
  rw [this, st 1 7 127 (by decide) rfl (by decide) (by decide), st 2 13 8191 (by decide) rfl (by decide) (by decide), st 3 17 131071 (by decide) rfl (by decide) (by decide), st 4 19 524287 (by decide) rfl (by decide) (by decide), st 5 31 2147483647 (by decide) rfl (by decide) (by decide), st 6 61 2305843009213693951 (by decide) rfl (by decide) (by decide)]
  have last : privityref01_Exponent.l0 (m + 1) x [5, 7, 13, 17, 19, 31, 61] ((6 + 1 : Nat) : Int) = some 0 := by rw [privityref01_Exponent.l0, if_neg (by decide)]
  rw [last]
  clear this st last
  unfold supB
  simp only [List.contains_cons, List.contains_nil, Bool.or_false]
  repeat' split
  all_goals simp_all
theorem h_sup {base : Nat} {H : HH} {K : Value → HH → Prop} (x : Int) (hk : K (.bool (supB x)) H) : HCall Tryd.prog base 44 #[.int .u64 x] H K := by
  obtain ⟨k, hk'⟩ := (sup_ev x).rounds
  exact (HCall.of (enters Tryd.func44 (by kernel_rfl)) (fun W => privityref01_Supported.calls k _ _ W hk')).to hk
end Go.Proofs.YtjpaichcaaacbaaDoor.HL
end
section
set_option linter.unusedVariables false
set_option linter.unusedSimpArgs false
set_option maxRecDepth 100000
namespace Go.Proofs.YtjpaichcaaacbaaDoor.HL
open Go
theorem mix : Tryd.prog.follows .mixedOrders = true := by kernel_rfl
def field_Supported.ann : Ann := ⟨fun k => [], fun k => false, fun k => []⟩
def field_Supported.sh (base : Nat) (x0 : Int) (H0 : HH) (K : Value → HH → Prop) : Prop :=
 HCall Tryd.prog base 68 #[(.int .u64 x0)] H0 fun v1 H2 =>
 ∃ n3 : Int, v1 = (.int .i64 n3) ∧ K (.bool (((n3 : Int) != 0))) H2
theorem field_Supported.spec {base : Nat} {x0 : Int} {H0 : HH} {K : Value → HH → Prop} (h : field_Supported.sh base x0 H0 K) : HCall Tryd.prog base 57 #[(.int .u64 x0)] H0 K := spec_of_wpC (n := 6) (ann := field_Supported.ann) mix Tryd.func57 (by kernel_rfl) (cast (show field_Supported.sh base x0 H0 K = wpC Tryd.prog base 6 field_Supported.ann (bodyOf Tryd.f57) (ofL [(.int .u64 x0)]) H0 (retQ Tryd.prog 6 Tryd.f57 K) by kernel_rfl) h)
def field_Exponent.ann : Ann := ⟨fun k => [], fun k => false, fun k => bif Nat.beq k 2 then [0, 5, 6] else []⟩
def field_Exponent.P0 (base : Nat) (l : List Value) (H0 : HH) (K : Value → HH → Prop) : Prop := HCodeL Tryd.prog base 16 (codeAt [.r, .l, .r, .b] (bodyOf Tryd.f68)) [0, 5, 6] l H0 (qAt Tryd.prog base 16 field_Exponent.ann [.r, .l, .r, .b] [] (bodyOf Tryd.f68) (retQ Tryd.prog 16 Tryd.f68 K))
def field_Exponent.sh (base : Nat) (x0 : Int) (H0 : HH) (K : Value → HH → Prop) : Prop :=
 ∃ n1 : Int, ∃ n2 : Int, ∃ n3 : Int, ∃ n4 : Int, ∃ n5 : Int, ∃ n6 : Int, ∃ n7 : Int, QRun Tryd.prog (Instr.loadAt 91 (.pointer ((some ⟨1, 0, none⟩)))) H0 (.agg #[(.int .i64 n1), (.int .i64 n2), (.int .i64 n3), (.int .i64 n4), (.int .i64 n5), (.int .i64 n6), (.int .i64 n7)]) ∧
 field_Exponent.P0 base [(.int .u64 x0), (.agg #[(.int .i64 n1), (.int .i64 n2), (.int .i64 n3), (.int .i64 n4), (.int .i64 n5), (.int .i64 n6), (.int .i64 n7)]), (.int .i64 0)] H0 K
theorem field_Exponent.spec {base : Nat} {x0 : Int} {H0 : HH} {K : Value → HH → Prop} (h : field_Exponent.sh base x0 H0 K) : HCall Tryd.prog base 68 #[(.int .u64 x0)] H0 K := spec_of_wpC (n := 16) (ann := field_Exponent.ann) mix Tryd.func68 (by kernel_rfl) (cast (show field_Exponent.sh base x0 H0 K = wpC Tryd.prog base 16 field_Exponent.ann (bodyOf Tryd.f68) (ofL [(.int .u64 x0)]) H0 (retQ Tryd.prog 16 Tryd.f68 K) by kernel_rfl) h)
def field_Exponent.B0 (base : Nat) (x0 x5_0 x5_1 x5_2 x5_3 x5_4 x5_5 x5_6 : Int) (y6 : Int) (g : Fr) (N0 : Value → HH → Prop) (H0 : HH) (K : Value → HH → Prop) : Prop :=
 if (decide ((y6 : Int) < 7)) = true then
 ∃ n8 : Int, AQ Tryd.prog (Instr.index 91 (.agg #[(.int .i64 x5_0), (.int .i64 x5_1), (.int .i64 x5_2), (.int .i64 x5_3), (.int .i64 x5_4), (.int .i64 x5_5), (.int .i64 x5_6)]) (.int .i64 y6)) (.int .i64 n8) ∧
 ∃ n9 : Int, AQ Tryd.prog (binSem .shl 22 (.const (.int .u64 1)) (.tmp 10) (.int .u64 1) (.int .i64 n8)) (.int .u64 n9) ∧
 if ((x0 : Int) == ((IntKind.u64.wrap (n9 - 1)))) = true then
 K (.int .i64 n8) H0
 else
 N0 (.int .i64 ((IntKind.i64.wrap (y6 + 1)))) H0
 else
 K (.int .i64 0) H0
theorem field_Exponent.loop0 {base : Nat} {x0 x5_0 x5_1 x5_2 x5_3 x5_4 x5_5 x5_6 y6_i : Int} {H0 : HH} {K : Value → HH → Prop} (J : Nat → Int → HH → Prop) (n : Nat) (h0 : J n y6_i H0)
    (hs : ∀ (n : Nat) (y6 : Int) (g : Fr) (H0 : HH), J n y6 H0 → field_Exponent.B0 base x0 x5_0 x5_1 x5_2 x5_3 x5_4 x5_5 x5_6 y6 g (fun w6 H => ∃ n', n' < n ∧ ∃ (y6' : Int), w6 = (.int .i64 y6') ∧ J n' y6' H) H0 K) : field_Exponent.P0 base [(.int .u64 x0), (.agg #[(.int .i64 x5_0), (.int .i64 x5_1), (.int .i64 x5_2), (.int .i64 x5_3), (.int .i64 x5_4), (.int .i64 x5_5), (.int .i64 x5_6)]), (.int .i64 y6_i)] H0 K := by
  refine loop_rule (ann := field_Exponent.ann) (body := codeAt [.r, .l, .r, .b, .lp] (bodyOf Tryd.f68)) mix (by kernel_rfl) 65492 (by kernel_rfl) [0, 5] [(.int .u64 x0), (.agg #[(.int .i64 x5_0), (.int .i64 x5_1), (.int .i64 x5_2), (.int .i64 x5_3), (.int .i64 x5_4), (.int .i64 x5_5), (.int .i64 x5_6)])] (by kernel_rfl) (fun fr ⟨e0, e5, e6, _⟩ => ⟨e0, e5, trivial⟩) (fun n g H => ∃ (y6 : Int), g 6 = (.int .i64 y6) ∧ J n y6 H) n (fun fr ⟨e0, e5, e6, _⟩ => ⟨y6_i, e6, h0⟩) ?_
  rintro n g H0 ⟨e0, e5, _⟩ ⟨y6, e6, hJ⟩
  rw [← ov_eq (g := g) [(0, (.int .u64 x0)), (5, (.agg #[(.int .i64 x5_0), (.int .i64 x5_1), (.int .i64 x5_2), (.int .i64 x5_3), (.int .i64 x5_4), (.int .i64 x5_5), (.int .i64 x5_6)])), (6, (.int .i64 y6))] (by simp only [List.mem_cons, List.not_mem_nil, or_false, forall_eq_or_imp, forall_eq, false_implies, implies_true]; exact ⟨e0, e5, e6⟩)]
  have key : ∀ NN : Value → HH → Prop, field_Exponent.B0 base x0 x5_0 x5_1 x5_2 x5_3 x5_4 x5_5 x5_6 y6 g NN H0 K = wpC Tryd.prog base 16 field_Exponent.ann (codeAt [.r, .l, .r, .b, .lp] (bodyOf Tryd.f68)) (ov g [(0, (.int .u64 x0)), (5, (.agg #[(.int .i64 x5_0), (.int .i64 x5_1), (.int .i64 x5_2), (.int .i64 x5_3), (.int .i64 x5_4), (.int .i64 x5_5), (.int .i64 x5_6)])), (6, (.int .i64 y6))]) H0 (thenQ (fun fr H => NN (fr 6) H) (qAt Tryd.prog base 16 field_Exponent.ann [.r, .l, .r, .b] [] (bodyOf Tryd.f68) (retQ Tryd.prog 16 Tryd.f68 K))) := fun NN => by kernel_rfl
  refine cast ?_ (hs n y6 g H0 hJ)
  refine (key (fun w6 H => ∃ n', n' < n ∧ ∃ (y6' : Int), w6 = (.int .i64 y6') ∧ J n' y6' H)).trans ?_
  kernel_rfl
def circuit_of.ann : Ann := ⟨fun k => [], fun k => false, fun k => bif Nat.beq k 2 then [1, 2, 6, 7] else []⟩
def circuit_of.P0 (base : Nat) (l : List Value) (H0 : HH) (K : Value → HH → Prop) : Prop := HCodeL Tryd.prog base 31 (codeAt [.r, .l, .r, .b] (bodyOf Tryd.f69)) [1, 2, 6, 7] l H0 (qAt Tryd.prog base 31 circuit_of.ann [.r, .l, .r, .b] [] (bodyOf Tryd.f69) (retQ Tryd.prog 31 Tryd.f69 K))
def circuit_of.sh (base : Nat) (x0_0 : Int) (x0_1 : Int) (x0_2 : Int) (x0_3 : Int) (x0_4 : Int) (H0 : HH) (K : Value → HH → Prop) : Prop :=
 HRun Tryd.prog base (Instr.box 37 (.agg #[(.int .i64 x0_0), (.int .i64 x0_1), (.int .i64 x0_2), (.int .i64 x0_3), (.int .u64 x0_4)])) H0 fun v1 H2 =>
 ∃ a3 : Addr, v1 = (.pointer ((some a3))) ∧ HRun Tryd.prog base (Instr.alloc 85 true (.tuple #[])) H2 fun v4 H5 =>
 ∃ a6 : Addr, v4 = (.pointer ((some a6))) ∧ ∃ s7 : ByteArray, ∃ n8 : Int, ∃ b9 : Bool, ∃ b10 : Bool, ∃ b11 : Bool, ∃ b12 : Bool, ∃ b13 : Bool, ∃ s14 : ByteArray, ∃ n15 : Int, ∃ b16 : Bool, ∃ b17 : Bool, ∃ b18 : Bool, ∃ b19 : Bool, ∃ b20 : Bool, ∃ s21 : ByteArray, ∃ n22 : Int, ∃ b23 : Bool, ∃ b24 : Bool, ∃ b25 : Bool, ∃ b26 : Bool, ∃ b27 : Bool, ∃ s28 : ByteArray, ∃ n29 : Int, ∃ b30 : Bool, ∃ b31 : Bool, ∃ b32 : Bool, ∃ b33 : Bool, ∃ b34 : Bool, ∃ s35 : ByteArray, ∃ n36 : Int, ∃ b37 : Bool, ∃ b38 : Bool, ∃ b39 : Bool, ∃ b40 : Bool, ∃ b41 : Bool, ∃ s42 : ByteArray, ∃ n43 : Int, ∃ b44 : Bool, ∃ b45 : Bool, ∃ b46 : Bool, ∃ b47 : Bool, ∃ b48 : Bool, ∃ s49 : ByteArray, ∃ n50 : Int, ∃ b51 : Bool, ∃ b52 : Bool, ∃ b53 : Bool, ∃ b54 : Bool, ∃ b55 : Bool, QRun Tryd.prog (Instr.loadAt 92 (.pointer ((some ⟨2, 0, none⟩)))) H5 (.agg #[(.string s7), (.int .i64 n8), (.bool b9), (.bool b10), (.bool b11), (.bool b12), (.bool b13), (.string s14), (.int .i64 n15), (.bool b16), (.bool b17), (.bool b18), (.bool b19), (.bool b20), (.string s21), (.int .i64 n22), (.bool b23), (.bool b24), (.bool b25), (.bool b26), (.bool b27), (.string s28), (.int .i64 n29), (.bool b30), (.bool b31), (.bool b32), (.bool b33), (.bool b34), (.string s35), (.int .i64 n36), (.bool b37), (.bool b38), (.bool b39), (.bool b40), (.bool b41), (.string s42), (.int .i64 n43), (.bool b44), (.bool b45), (.bool b46), (.bool b47), (.bool b48), (.string s49), (.int .i64 n50), (.bool b51), (.bool b52), (.bool b53), (.bool b54), (.bool b55)]) ∧
 circuit_of.P0 base [(.pointer ((some a3))), (.pointer ((some a6))), (.agg #[(.string s7), (.int .i64 n8), (.bool b9), (.bool b10), (.bool b11), (.bool b12), (.bool b13), (.string s14), (.int .i64 n15), (.bool b16), (.bool b17), (.bool b18), (.bool b19), (.bool b20), (.string s21), (.int .i64 n22), (.bool b23), (.bool b24), (.bool b25), (.bool b26), (.bool b27), (.string s28), (.int .i64 n29), (.bool b30), (.bool b31), (.bool b32), (.bool b33), (.bool b34), (.string s35), (.int .i64 n36), (.bool b37), (.bool b38), (.bool b39), (.bool b40), (.bool b41), (.string s42), (.int .i64 n43), (.bool b44), (.bool b45), (.bool b46), (.bool b47), (.bool b48), (.string s49), (.int .i64 n50), (.bool b51), (.bool b52), (.bool b53), (.bool b54), (.bool b55)]), (.int .i64 0)] H5 K
theorem circuit_of.spec {base : Nat} {x0_0 : Int} {x0_1 : Int} {x0_2 : Int} {x0_3 : Int} {x0_4 : Int} {H0 : HH} {K : Value → HH → Prop} (h : circuit_of.sh base x0_0 x0_1 x0_2 x0_3 x0_4 H0 K) : HCall Tryd.prog base 69 #[(.agg #[(.int .i64 x0_0), (.int .i64 x0_1), (.int .i64 x0_2), (.int .i64 x0_3), (.int .u64 x0_4)])] H0 K := spec_of_wpC (n := 31) (ann := circuit_of.ann) mix Tryd.func69 (by kernel_rfl) (cast (show circuit_of.sh base x0_0 x0_1 x0_2 x0_3 x0_4 H0 K = wpC Tryd.prog base 31 circuit_of.ann (bodyOf Tryd.f69) (ofL [(.agg #[(.int .i64 x0_0), (.int .i64 x0_1), (.int .i64 x0_2), (.int .i64 x0_3), (.int .u64 x0_4)])]) H0 (retQ Tryd.prog 31 Tryd.f69 K) by kernel_rfl) h)
def circuit_of.B0 (base : Nat) (x1 x2 : Addr) (x6_0 : ByteArray) (x6_1 : Int) (x6_2 x6_3 x6_4 x6_5 x6_6 : Bool) (x6_7 : ByteArray) (x6_8 : Int) (x6_9 x6_10 x6_11 x6_12 x6_13 : Bool) (x6_14 : ByteArray) (x6_15 : Int) (x6_16 x6_17 x6_18 x6_19 x6_20 : Bool) (x6_21 : ByteArray) (x6_22 : Int) (x6_23 x6_24 x6_25 x6_26 x6_27 : Bool) (x6_28 : ByteArray) (x6_29 : Int) (x6_30 x6_31 x6_32 x6_33 x6_34 : Bool) (x6_35 : ByteArray) (x6_36 : Int) (x6_37 x6_38 x6_39 x6_40 x6_41 : Bool) (x6_42 : ByteArray) (x6_43 : Int) (x6_44 x6_45 x6_46 x6_47 x6_48 : Bool) (y7 : Int) (g : Fr) (N0 : Value → HH → Prop) (H0 : HH) (K : Value → HH → Prop) : Prop :=
 if (decide ((y7 : Int) < 7)) = true then
 ∃ s56 : ByteArray, ∃ n57 : Int, ∃ b58 : Bool, ∃ b59 : Bool, ∃ b60 : Bool, ∃ b61 : Bool, ∃ b62 : Bool, AQ Tryd.prog (Instr.index 92 (.agg #[(.string x6_0), (.int .i64 x6_1), (.bool x6_2), (.bool x6_3), (.bool x6_4), (.bool x6_5), (.bool x6_6), (.string x6_7), (.int .i64 x6_8), (.bool x6_9), (.bool x6_10), (.bool x6_11), (.bool x6_12), (.bool x6_13), (.string x6_14), (.int .i64 x6_15), (.bool x6_16), (.bool x6_17), (.bool x6_18), (.bool x6_19), (.bool x6_20), (.string x6_21), (.int .i64 x6_22), (.bool x6_23), (.bool x6_24), (.bool x6_25), (.bool x6_26), (.bool x6_27), (.string x6_28), (.int .i64 x6_29), (.bool x6_30), (.bool x6_31), (.bool x6_32), (.bool x6_33), (.bool x6_34), (.string x6_35), (.int .i64 x6_36), (.bool x6_37), (.bool x6_38), (.bool x6_39), (.bool x6_40), (.bool x6_41), (.string x6_42), (.int .i64 x6_43), (.bool x6_44), (.bool x6_45), (.bool x6_46), (.bool x6_47), (.bool x6_48)]) (.int .i64 y7)) (.agg #[(.string s56), (.int .i64 n57), (.bool b58), (.bool b59), (.bool b60), (.bool b61), (.bool b62)]) ∧
 HRun Tryd.prog base (Instr.alloc 85 true (.tuple #[])) H0 fun v63 H64 =>
 ∃ a65 : Addr, v63 = (.pointer ((some a65))) ∧ HRun Tryd.prog base (Instr.storeAt 85 (.pointer ((some a65))) (.agg #[(.string s56), (.int .i64 n57), (.bool b58), (.bool b59), (.bool b60), (.bool b61), (.bool b62)])) H64 fun _ H66 =>
 ∃ a67 : Addr, AQ Tryd.prog (Instr.fieldAt 85 (.pointer ((some a65))) 1) (.pointer ((some a67))) ∧
 ∃ n68 : Int, QRun Tryd.prog (Instr.loadAt 3 (.pointer ((some a67)))) H66 (.int .i64 n68) ∧
 ∃ a69 : Addr, AQ Tryd.prog (Instr.fieldAt 37 (.pointer ((some x1))) 0) (.pointer ((some a69))) ∧
 ∃ n70 : Int, QRun Tryd.prog (Instr.loadAt 3 (.pointer ((some a69)))) H66 (.int .i64 n70) ∧
 if ((n68 : Int) == n70) = true then
 ∃ a71 : Addr, AQ Tryd.prog (Instr.fieldAt 85 (.pointer ((some a65))) 6) (.pointer ((some a71))) ∧
 ∃ b72 : Bool, QRun Tryd.prog (Instr.loadAt 4 (.pointer ((some a71)))) H66 (.bool b72) ∧
 ∃ a73 : Addr, AQ Tryd.prog (Instr.fieldAt 37 (.pointer ((some x1))) 0) (.pointer ((some a73))) ∧
 ∃ n74 : Int, QRun Tryd.prog (Instr.loadAt 3 (.pointer ((some a73)))) H66 (.int .i64 n74) ∧
 if ((n74 : Int) == 1) = true then
 ∃ a75 : Addr, AQ Tryd.prog (Instr.fieldAt 37 (.pointer ((some x1))) 4) (.pointer ((some a75))) ∧
 ∃ n76 : Int, QRun Tryd.prog (Instr.loadAt 22 (.pointer ((some a75)))) H66 (.int .u64 n76) ∧
 ∃ b77 : Bool, AQ Tryd.prog (binSem .eql 4 (.tmp 17) (.tmp 25) (.bool b72) (.bool (((n76 : Int) == 1)))) (.bool b77) ∧
 if b77 = true then
 ∃ s78 : ByteArray, ∃ n79 : Int, ∃ b80 : Bool, ∃ b81 : Bool, ∃ b82 : Bool, ∃ b83 : Bool, ∃ b84 : Bool, QRun Tryd.prog (Instr.loadAt 85 (.pointer ((some a65)))) H66 (.agg #[(.string s78), (.int .i64 n79), (.bool b80), (.bool b81), (.bool b82), (.bool b83), (.bool b84)]) ∧
 HRun Tryd.prog base (Instr.storeAt 85 (.pointer ((some x2))) (.agg #[(.string s78), (.int .i64 n79), (.bool b80), (.bool b81), (.bool b82), (.bool b83), (.bool b84)])) H66 fun _ H85 =>
 ∃ r_, QRun Tryd.prog (results Tryd.f69 (List.toArray [(g 0), (.pointer ((some x1))), (.pointer ((some x2))), (.bool true), (g 4), (.pointer ((some a65))), (.agg #[(.string x6_0), (.int .i64 x6_1), (.bool x6_2), (.bool x6_3), (.bool x6_4), (.bool x6_5), (.bool x6_6), (.string x6_7), (.int .i64 x6_8), (.bool x6_9), (.bool x6_10), (.bool x6_11), (.bool x6_12), (.bool x6_13), (.string x6_14), (.int .i64 x6_15), (.bool x6_16), (.bool x6_17), (.bool x6_18), (.bool x6_19), (.bool x6_20), (.string x6_21), (.int .i64 x6_22), (.bool x6_23), (.bool x6_24), (.bool x6_25), (.bool x6_26), (.bool x6_27), (.string x6_28), (.int .i64 x6_29), (.bool x6_30), (.bool x6_31), (.bool x6_32), (.bool x6_33), (.bool x6_34), (.string x6_35), (.int .i64 x6_36), (.bool x6_37), (.bool x6_38), (.bool x6_39), (.bool x6_40), (.bool x6_41), (.string x6_42), (.int .i64 x6_43), (.bool x6_44), (.bool x6_45), (.bool x6_46), (.bool x6_47), (.bool x6_48)]), (.int .i64 y7), (.bool ((decide ((y7 : Int) < 7)))), (.agg #[(.string s56), (.int .i64 n57), (.bool b58), (.bool b59), (.bool b60), (.bool b61), (.bool b62)]), (.pointer ((some a67))), (.int .i64 n68), (.pointer ((some a69))), (.int .i64 n70), (.bool (((n68 : Int) == n70))), (.bool true), (.pointer ((some a71))), (.bool b72), (.pointer ((some a73))), (.int .i64 n74), (.bool (((n74 : Int) == 1))), (.bool true), (.pointer ((some a75))), (.int .u64 n76), (.bool (((n76 : Int) == 1))), (.bool (((n76 : Int) == 1))), (.bool b77), (.bool b77), (.agg #[(.string s78), (.int .i64 n79), (.bool b80), (.bool b81), (.bool b82), (.bool b83), (.bool b84)]), (g 29), (g 30)])) H85 r_ ∧ K r_ H85
 else
 N0 (.int .i64 ((IntKind.i64.wrap (y7 + 1)))) H66
 else
 ∃ b86 : Bool, AQ Tryd.prog (binSem .eql 4 (.tmp 17) (.tmp 25) (.bool b72) (.bool false)) (.bool b86) ∧
 if b86 = true then
 ∃ s87 : ByteArray, ∃ n88 : Int, ∃ b89 : Bool, ∃ b90 : Bool, ∃ b91 : Bool, ∃ b92 : Bool, ∃ b93 : Bool, QRun Tryd.prog (Instr.loadAt 85 (.pointer ((some a65)))) H66 (.agg #[(.string s87), (.int .i64 n88), (.bool b89), (.bool b90), (.bool b91), (.bool b92), (.bool b93)]) ∧
 HRun Tryd.prog base (Instr.storeAt 85 (.pointer ((some x2))) (.agg #[(.string s87), (.int .i64 n88), (.bool b89), (.bool b90), (.bool b91), (.bool b92), (.bool b93)])) H66 fun _ H94 =>
 ∃ r_, QRun Tryd.prog (results Tryd.f69 (List.toArray [(g 0), (.pointer ((some x1))), (.pointer ((some x2))), (.bool true), (g 4), (.pointer ((some a65))), (.agg #[(.string x6_0), (.int .i64 x6_1), (.bool x6_2), (.bool x6_3), (.bool x6_4), (.bool x6_5), (.bool x6_6), (.string x6_7), (.int .i64 x6_8), (.bool x6_9), (.bool x6_10), (.bool x6_11), (.bool x6_12), (.bool x6_13), (.string x6_14), (.int .i64 x6_15), (.bool x6_16), (.bool x6_17), (.bool x6_18), (.bool x6_19), (.bool x6_20), (.string x6_21), (.int .i64 x6_22), (.bool x6_23), (.bool x6_24), (.bool x6_25), (.bool x6_26), (.bool x6_27), (.string x6_28), (.int .i64 x6_29), (.bool x6_30), (.bool x6_31), (.bool x6_32), (.bool x6_33), (.bool x6_34), (.string x6_35), (.int .i64 x6_36), (.bool x6_37), (.bool x6_38), (.bool x6_39), (.bool x6_40), (.bool x6_41), (.string x6_42), (.int .i64 x6_43), (.bool x6_44), (.bool x6_45), (.bool x6_46), (.bool x6_47), (.bool x6_48)]), (.int .i64 y7), (.bool ((decide ((y7 : Int) < 7)))), (.agg #[(.string s56), (.int .i64 n57), (.bool b58), (.bool b59), (.bool b60), (.bool b61), (.bool b62)]), (.pointer ((some a67))), (.int .i64 n68), (.pointer ((some a69))), (.int .i64 n70), (.bool (((n68 : Int) == n70))), (.bool true), (.pointer ((some a71))), (.bool b72), (.pointer ((some a73))), (.int .i64 n74), (.bool (((n74 : Int) == 1))), (.bool false), undef, undef, undef, (.bool false), (.bool b86), (.bool b86), (.agg #[(.string s87), (.int .i64 n88), (.bool b89), (.bool b90), (.bool b91), (.bool b92), (.bool b93)]), (g 29), (g 30)])) H94 r_ ∧ K r_ H94
 else
 N0 (.int .i64 ((IntKind.i64.wrap (y7 + 1)))) H66
 else
 N0 (.int .i64 ((IntKind.i64.wrap (y7 + 1)))) H66
 else
 ∃ s95 : ByteArray, ∃ n96 : Int, ∃ b97 : Bool, ∃ b98 : Bool, ∃ b99 : Bool, ∃ b100 : Bool, ∃ b101 : Bool, AQ Tryd.prog (Instr.build 85 #[]) (.agg #[(.string s95), (.int .i64 n96), (.bool b97), (.bool b98), (.bool b99), (.bool b100), (.bool b101)]) ∧
 HRun Tryd.prog base (Instr.storeAt 85 (.pointer ((some x2))) (.agg #[(.string s95), (.int .i64 n96), (.bool b97), (.bool b98), (.bool b99), (.bool b100), (.bool b101)])) H0 fun _ H102 =>
 ∃ r_, QRun Tryd.prog (results Tryd.f69 (List.toArray [(g 0), (.pointer ((some x1))), (.pointer ((some x2))), (.bool false), (g 4), (g 5), (.agg #[(.string x6_0), (.int .i64 x6_1), (.bool x6_2), (.bool x6_3), (.bool x6_4), (.bool x6_5), (.bool x6_6), (.string x6_7), (.int .i64 x6_8), (.bool x6_9), (.bool x6_10), (.bool x6_11), (.bool x6_12), (.bool x6_13), (.string x6_14), (.int .i64 x6_15), (.bool x6_16), (.bool x6_17), (.bool x6_18), (.bool x6_19), (.bool x6_20), (.string x6_21), (.int .i64 x6_22), (.bool x6_23), (.bool x6_24), (.bool x6_25), (.bool x6_26), (.bool x6_27), (.string x6_28), (.int .i64 x6_29), (.bool x6_30), (.bool x6_31), (.bool x6_32), (.bool x6_33), (.bool x6_34), (.string x6_35), (.int .i64 x6_36), (.bool x6_37), (.bool x6_38), (.bool x6_39), (.bool x6_40), (.bool x6_41), (.string x6_42), (.int .i64 x6_43), (.bool x6_44), (.bool x6_45), (.bool x6_46), (.bool x6_47), (.bool x6_48)]), (.int .i64 y7), (.bool ((decide ((y7 : Int) < 7)))), (g 9), (g 10), (g 11), (g 12), (g 13), (g 14), (g 15), (g 16), (g 17), (g 18), (g 19), (g 20), (g 21), (g 22), (g 23), (g 24), (g 25), (g 26), (g 27), (g 28), (g 29), (.agg #[(.string s95), (.int .i64 n96), (.bool b97), (.bool b98), (.bool b99), (.bool b100), (.bool b101)])])) H102 r_ ∧ K r_ H102
theorem circuit_of.loop0 {base : Nat} {x1 x2 : Addr} {x6_0 : ByteArray} {x6_1 : Int} {x6_2 x6_3 x6_4 x6_5 x6_6 : Bool} {x6_7 : ByteArray} {x6_8 : Int} {x6_9 x6_10 x6_11 x6_12 x6_13 : Bool} {x6_14 : ByteArray} {x6_15 : Int} {x6_16 x6_17 x6_18 x6_19 x6_20 : Bool} {x6_21 : ByteArray} {x6_22 : Int} {x6_23 x6_24 x6_25 x6_26 x6_27 : Bool} {x6_28 : ByteArray} {x6_29 : Int} {x6_30 x6_31 x6_32 x6_33 x6_34 : Bool} {x6_35 : ByteArray} {x6_36 : Int} {x6_37 x6_38 x6_39 x6_40 x6_41 : Bool} {x6_42 : ByteArray} {x6_43 : Int} {x6_44 x6_45 x6_46 x6_47 x6_48 : Bool} {y7_i : Int} {H0 : HH} {K : Value → HH → Prop} (J : Nat → Int → HH → Prop) (n : Nat) (h0 : J n y7_i H0)
    (hs : ∀ (n : Nat) (y7 : Int) (g : Fr) (H0 : HH), J n y7 H0 → circuit_of.B0 base x1 x2 x6_0 x6_1 x6_2 x6_3 x6_4 x6_5 x6_6 x6_7 x6_8 x6_9 x6_10 x6_11 x6_12 x6_13 x6_14 x6_15 x6_16 x6_17 x6_18 x6_19 x6_20 x6_21 x6_22 x6_23 x6_24 x6_25 x6_26 x6_27 x6_28 x6_29 x6_30 x6_31 x6_32 x6_33 x6_34 x6_35 x6_36 x6_37 x6_38 x6_39 x6_40 x6_41 x6_42 x6_43 x6_44 x6_45 x6_46 x6_47 x6_48 y7 g (fun w7 H => ∃ n', n' < n ∧ ∃ (y7' : Int), w7 = (.int .i64 y7') ∧ J n' y7' H) H0 K) : circuit_of.P0 base [(.pointer ((some x1))), (.pointer ((some x2))), (.agg #[(.string x6_0), (.int .i64 x6_1), (.bool x6_2), (.bool x6_3), (.bool x6_4), (.bool x6_5), (.bool x6_6), (.string x6_7), (.int .i64 x6_8), (.bool x6_9), (.bool x6_10), (.bool x6_11), (.bool x6_12), (.bool x6_13), (.string x6_14), (.int .i64 x6_15), (.bool x6_16), (.bool x6_17), (.bool x6_18), (.bool x6_19), (.bool x6_20), (.string x6_21), (.int .i64 x6_22), (.bool x6_23), (.bool x6_24), (.bool x6_25), (.bool x6_26), (.bool x6_27), (.string x6_28), (.int .i64 x6_29), (.bool x6_30), (.bool x6_31), (.bool x6_32), (.bool x6_33), (.bool x6_34), (.string x6_35), (.int .i64 x6_36), (.bool x6_37), (.bool x6_38), (.bool x6_39), (.bool x6_40), (.bool x6_41), (.string x6_42), (.int .i64 x6_43), (.bool x6_44), (.bool x6_45), (.bool x6_46), (.bool x6_47), (.bool x6_48)]), (.int .i64 y7_i)] H0 K := by
  refine loop_rule (ann := circuit_of.ann) (body := codeAt [.r, .l, .r, .b, .lp] (bodyOf Tryd.f69)) mix (by kernel_rfl) 1073741736 (by kernel_rfl) [1, 2, 6] [(.pointer ((some x1))), (.pointer ((some x2))), (.agg #[(.string x6_0), (.int .i64 x6_1), (.bool x6_2), (.bool x6_3), (.bool x6_4), (.bool x6_5), (.bool x6_6), (.string x6_7), (.int .i64 x6_8), (.bool x6_9), (.bool x6_10), (.bool x6_11), (.bool x6_12), (.bool x6_13), (.string x6_14), (.int .i64 x6_15), (.bool x6_16), (.bool x6_17), (.bool x6_18), (.bool x6_19), (.bool x6_20), (.string x6_21), (.int .i64 x6_22), (.bool x6_23), (.bool x6_24), (.bool x6_25), (.bool x6_26), (.bool x6_27), (.string x6_28), (.int .i64 x6_29), (.bool x6_30), (.bool x6_31), (.bool x6_32), (.bool x6_33), (.bool x6_34), (.string x6_35), (.int .i64 x6_36), (.bool x6_37), (.bool x6_38), (.bool x6_39), (.bool x6_40), (.bool x6_41), (.string x6_42), (.int .i64 x6_43), (.bool x6_44), (.bool x6_45), (.bool x6_46), (.bool x6_47), (.bool x6_48)])] (by kernel_rfl) (fun fr ⟨e1, e2, e6, e7, _⟩ => ⟨e1, e2, e6, trivial⟩) (fun n g H => ∃ (y7 : Int), g 7 = (.int .i64 y7) ∧ J n y7 H) n (fun fr ⟨e1, e2, e6, e7, _⟩ => ⟨y7_i, e7, h0⟩) ?_
  rintro n g H0 ⟨e1, e2, e6, _⟩ ⟨y7, e7, hJ⟩
  rw [← ov_eq (g := g) [(1, (.pointer ((some x1)))), (2, (.pointer ((some x2)))), (6, (.agg #[(.string x6_0), (.int .i64 x6_1), (.bool x6_2), (.bool x6_3), (.bool x6_4), (.bool x6_5), (.bool x6_6), (.string x6_7), (.int .i64 x6_8), (.bool x6_9), (.bool x6_10), (.bool x6_11), (.bool x6_12), (.bool x6_13), (.string x6_14), (.int .i64 x6_15), (.bool x6_16), (.bool x6_17), (.bool x6_18), (.bool x6_19), (.bool x6_20), (.string x6_21), (.int .i64 x6_22), (.bool x6_23), (.bool x6_24), (.bool x6_25), (.bool x6_26), (.bool x6_27), (.string x6_28), (.int .i64 x6_29), (.bool x6_30), (.bool x6_31), (.bool x6_32), (.bool x6_33), (.bool x6_34), (.string x6_35), (.int .i64 x6_36), (.bool x6_37), (.bool x6_38), (.bool x6_39), (.bool x6_40), (.bool x6_41), (.string x6_42), (.int .i64 x6_43), (.bool x6_44), (.bool x6_45), (.bool x6_46), (.bool x6_47), (.bool x6_48)])), (7, (.int .i64 y7))] (by simp only [List.mem_cons, List.not_mem_nil, or_false, forall_eq_or_imp, forall_eq, false_implies, implies_true]; exact ⟨e1, e2, e6, e7⟩)]
  have key : ∀ NN : Value → HH → Prop, circuit_of.B0 base x1 x2 x6_0 x6_1 x6_2 x6_3 x6_4 x6_5 x6_6 x6_7 x6_8 x6_9 x6_10 x6_11 x6_12 x6_13 x6_14 x6_15 x6_16 x6_17 x6_18 x6_19 x6_20 x6_21 x6_22 x6_23 x6_24 x6_25 x6_26 x6_27 x6_28 x6_29 x6_30 x6_31 x6_32 x6_33 x6_34 x6_35 x6_36 x6_37 x6_38 x6_39 x6_40 x6_41 x6_42 x6_43 x6_44 x6_45 x6_46 x6_47 x6_48 y7 g NN H0 K = wpC Tryd.prog base 31 circuit_of.ann (codeAt [.r, .l, .r, .b, .lp] (bodyOf Tryd.f69)) (ov g [(1, (.pointer ((some x1)))), (2, (.pointer ((some x2)))), (6, (.agg #[(.string x6_0), (.int .i64 x6_1), (.bool x6_2), (.bool x6_3), (.bool x6_4), (.bool x6_5), (.bool x6_6), (.string x6_7), (.int .i64 x6_8), (.bool x6_9), (.bool x6_10), (.bool x6_11), (.bool x6_12), (.bool x6_13), (.string x6_14), (.int .i64 x6_15), (.bool x6_16), (.bool x6_17), (.bool x6_18), (.bool x6_19), (.bool x6_20), (.string x6_21), (.int .i64 x6_22), (.bool x6_23), (.bool x6_24), (.bool x6_25), (.bool x6_26), (.bool x6_27), (.string x6_28), (.int .i64 x6_29), (.bool x6_30), (.bool x6_31), (.bool x6_32), (.bool x6_33), (.bool x6_34), (.string x6_35), (.int .i64 x6_36), (.bool x6_37), (.bool x6_38), (.bool x6_39), (.bool x6_40), (.bool x6_41), (.string x6_42), (.int .i64 x6_43), (.bool x6_44), (.bool x6_45), (.bool x6_46), (.bool x6_47), (.bool x6_48)])), (7, (.int .i64 y7))]) H0 (thenQ (fun fr H => NN (fr 7) H) (qAt Tryd.prog base 31 circuit_of.ann [.r, .l, .r, .b] [] (bodyOf Tryd.f69) (retQ Tryd.prog 31 Tryd.f69 K))) := fun NN => by kernel_rfl
  refine cast ?_ (hs n y7 g H0 hJ)
  refine (key (fun w7 H => ∃ n', n' < n ∧ ∃ (y7' : Int), w7 = (.int .i64 y7') ∧ J n' y7' H)).trans ?_
  kernel_rfl
def circuit_right_1.ann : Ann := ⟨fun k => [], fun k => false, fun k => []⟩
def circuit_right_1.sh (base : Nat) (x0 : Bool) (x1 : Int) (x2 : Addr) (H0 : HH) (K : Value → HH → Prop) : Prop :=
 if (!x0) = true then
 if ((x1 : Int) == 0) = false then
 if x0 = true then
 if (decide ((x1 : Int) ≥ 0)) = true then
 ∃ n1 : Int, QRun Tryd.prog (Instr.loadAt 3 (.pointer ((some x2)))) H0 (.int .i64 n1) ∧
 K (.bool ((decide ((x1 : Int) < n1)))) H0
 else
 K (.bool false) H0
 else
 K (.bool false) H0
 else
 K (.bool true) H0
 else
 if x0 = true then
 if (decide ((x1 : Int) ≥ 0)) = true then
 ∃ n2 : Int, QRun Tryd.prog (Instr.loadAt 3 (.pointer ((some x2)))) H0 (.int .i64 n2) ∧
 K (.bool ((decide ((x1 : Int) < n2)))) H0
 else
 K (.bool false) H0
 else
 K (.bool false) H0
theorem circuit_right_1.spec {base : Nat} {x0 : Bool} {x1 : Int} {x2 : Addr} {H0 : HH} {K : Value → HH → Prop} (h : circuit_right_1.sh base x0 x1 x2 H0 K) : HCall Tryd.prog base 70 #[(.bool x0), (.int .i64 x1), (.pointer ((some x2)))] H0 K := spec_of_wpC (n := 24) (ann := circuit_right_1.ann) mix Tryd.func70 (by kernel_rfl) (cast (show circuit_right_1.sh base x0 x1 x2 H0 K = wpC Tryd.prog base 24 circuit_right_1.ann (bodyOf Tryd.f70) (ofL [(.bool x0), (.int .i64 x1), (.pointer ((some x2)))]) H0 (retQ Tryd.prog 24 Tryd.f70 K) by kernel_rfl) h)
def circuit_right.ann : Ann := ⟨fun k => [], fun k => bif Nat.beq k 5 then true else bif Nat.beq k 6 then true else false, fun k => bif Nat.beq k 5 then [0, 4, 5, 7, 9] else bif Nat.beq k 6 then [4, 5, 7, 9, 10] else []⟩
def circuit_right.R0 (base : Nat) (l : List Value) (H0 : HH) (K : Value → HH → Prop) : Prop := HCodeL Tryd.prog base 84 (codeAt [.r, .r, .r, .r] (bodyOf Tryd.f58)) [0, 4, 5, 7, 9] l H0 (qAt Tryd.prog base 84 circuit_right.ann [.r, .r, .r, .r] [] (bodyOf Tryd.f58) (retQ Tryd.prog 84 Tryd.f58 K))
def circuit_right.R1 (base : Nat) (l : List Value) (H0 : HH) (K : Value → HH → Prop) : Prop := HCodeL Tryd.prog base 84 (codeAt [.r, .r, .r, .r, .r] (bodyOf Tryd.f58)) [4, 5, 7, 9, 10] l H0 (qAt Tryd.prog base 84 circuit_right.ann [.r, .r, .r, .r, .r] [] (bodyOf Tryd.f58) (retQ Tryd.prog 84 Tryd.f58 K))
def circuit_right.S0 (base : Nat) (x0 : Int) (x4 x5 x7 : Addr) (x9 : Bool) (H0 : HH) (K : Value → HH → Prop) : Prop :=
 ∃ a42 : Addr, AQ Tryd.prog (Instr.fieldAt 85 (.pointer ((some x7))) 3) (.pointer ((some a42))) ∧
 ∃ b43 : Bool, QRun Tryd.prog (Instr.loadAt 4 (.pointer ((some a42)))) H0 (.bool b43) ∧
 if (!b43) = true then
 ∃ a44 : Addr, AQ Tryd.prog (Instr.fieldAt 37 (.pointer ((some x4))) 4) (.pointer ((some a44))) ∧
 ∃ n45 : Int, QRun Tryd.prog (Instr.loadAt 22 (.pointer ((some a44)))) H0 (.int .u64 n45) ∧
 if ((n45 : Int) == 0) = false then
 ∃ a46 : Addr, AQ Tryd.prog (Instr.fieldAt 85 (.pointer ((some x7))) 6) (.pointer ((some a46))) ∧
 ∃ b47 : Bool, QRun Tryd.prog (Instr.loadAt 4 (.pointer ((some a46)))) H0 (.bool b47) ∧
 if b47 = false then
 ∃ a48 : Addr, AQ Tryd.prog (Instr.fieldAt 85 (.pointer ((some x7))) 3) (.pointer ((some a48))) ∧
 ∃ b49 : Bool, QRun Tryd.prog (Instr.loadAt 4 (.pointer ((some a48)))) H0 (.bool b49) ∧
 if b49 = true then
 ∃ a50 : Addr, AQ Tryd.prog (Instr.fieldAt 37 (.pointer ((some x4))) 4) (.pointer ((some a50))) ∧
 ∃ n51 : Int, QRun Tryd.prog (Instr.loadAt 22 (.pointer ((some a50)))) H0 (.int .u64 n51) ∧
 circuit_right.R1 base [(.pointer ((some x4))), (.pointer ((some x5))), (.pointer ((some x7))), (.bool x9), (.bool ((decide ((n51 : Int) < x0))))] H0 K
 else
 circuit_right.R1 base [(.pointer ((some x4))), (.pointer ((some x5))), (.pointer ((some x7))), (.bool x9), (.bool false)] H0 K
 else
 circuit_right.R1 base [(.pointer ((some x4))), (.pointer ((some x5))), (.pointer ((some x7))), (.bool x9), (.bool true)] H0 K
 else
 circuit_right.R1 base [(.pointer ((some x4))), (.pointer ((some x5))), (.pointer ((some x7))), (.bool x9), (.bool true)] H0 K
 else
 ∃ a52 : Addr, AQ Tryd.prog (Instr.fieldAt 85 (.pointer ((some x7))) 3) (.pointer ((some a52))) ∧
 ∃ b53 : Bool, QRun Tryd.prog (Instr.loadAt 4 (.pointer ((some a52)))) H0 (.bool b53) ∧
 if b53 = true then
 ∃ a54 : Addr, AQ Tryd.prog (Instr.fieldAt 37 (.pointer ((some x4))) 4) (.pointer ((some a54))) ∧
 ∃ n55 : Int, QRun Tryd.prog (Instr.loadAt 22 (.pointer ((some a54)))) H0 (.int .u64 n55) ∧
 circuit_right.R1 base [(.pointer ((some x4))), (.pointer ((some x5))), (.pointer ((some x7))), (.bool x9), (.bool ((decide ((n55 : Int) < x0))))] H0 K
 else
 circuit_right.R1 base [(.pointer ((some x4))), (.pointer ((some x5))), (.pointer ((some x7))), (.bool x9), (.bool false)] H0 K
def circuit_right.T0 (base : Nat) (x0 : Int) (x4 x5 x7 : Addr) (x9 : Bool) (H0 : HH) (K : Value → HH → Prop) : Prop := circuit_right.S0 base x0 x4 x5 x7 x9 H0 K
theorem circuit_right.rest0 {base : Nat} {x0 : Int} {x4 x5 x7 : Addr} {x9 : Bool} {H0 : HH} {K : Value → HH → Prop} (h : circuit_right.S0 base x0 x4 x5 x7 x9 H0 K) : circuit_right.R0 base [(.int .u64 x0), (.pointer ((some x4))), (.pointer ((some x5))), (.pointer ((some x7))), (.bool x9)] H0 K := by
  refine wpCL_sound (ann := circuit_right.ann) mix (fun fr ⟨e0, e4, e5, e7, e9, _⟩ => ?_)
  rw [← ov_eq (g := fr) [(0, (.int .u64 x0)), (4, (.pointer ((some x4)))), (5, (.pointer ((some x5)))), (7, (.pointer ((some x7)))), (9, (.bool x9))] (by simp only [List.mem_cons, List.not_mem_nil, or_false, forall_eq_or_imp, forall_eq, false_implies, implies_true]; exact ⟨e0, e4, e5, e7, e9⟩)]
  exact cast (show circuit_right.S0 base x0 x4 x5 x7 x9 H0 K = wpC Tryd.prog base 84 circuit_right.ann (codeAt [.r, .r, .r, .r] (bodyOf Tryd.f58)) (ov fr [(0, (.int .u64 x0)), (4, (.pointer ((some x4)))), (5, (.pointer ((some x5)))), (7, (.pointer ((some x7)))), (9, (.bool x9))]) H0 (qAt Tryd.prog base 84 circuit_right.ann [.r, .r, .r, .r] [] (bodyOf Tryd.f58) (retQ Tryd.prog 84 Tryd.f58 K)) by kernel_rfl) h
theorem circuit_right.cut0 {base : Nat} {x0 : Int} {x4 x5 x7 : Addr} {x9 : Bool} {H0 : HH} {K : Value → HH → Prop} (h : circuit_right.T0 base x0 x4 x5 x7 x9 H0 K) : circuit_right.R0 base [(.int .u64 x0), (.pointer ((some x4))), (.pointer ((some x5))), (.pointer ((some x7))), (.bool x9)] H0 K := circuit_right.rest0 h
def circuit_right.S1 (base : Nat) (x4 x5 x7 : Addr) (x9 x10 : Bool) (H0 : HH) (K : Value → HH → Prop) : Prop :=
 if x9 = true then
 if x10 = true then
 ∃ a56 : Addr, AQ Tryd.prog (Instr.fieldAt 85 (.pointer ((some x7))) 4) (.pointer ((some a56))) ∧
 ∃ b57 : Bool, QRun Tryd.prog (Instr.loadAt 4 (.pointer ((some a56)))) H0 (.bool b57) ∧
 ∃ a58 : Addr, AQ Tryd.prog (Instr.fieldAt 37 (.pointer ((some x4))) 2) (.pointer ((some a58))) ∧
 ∃ n59 : Int, QRun Tryd.prog (Instr.loadAt 3 (.pointer ((some a58)))) H0 (.int .i64 n59) ∧
 HCall Tryd.prog base 70 #[(.bool b57), (.int .i64 n59), (.pointer ((some x5)))] H0 fun v60 H61 =>
 ∃ b62 : Bool, v60 = (.bool b62) ∧ if b62 = true then
 ∃ a63 : Addr, AQ Tryd.prog (Instr.fieldAt 85 (.pointer ((some x7))) 5) (.pointer ((some a63))) ∧
 ∃ b64 : Bool, QRun Tryd.prog (Instr.loadAt 4 (.pointer ((some a63)))) H61 (.bool b64) ∧
 ∃ a65 : Addr, AQ Tryd.prog (Instr.fieldAt 37 (.pointer ((some x4))) 3) (.pointer ((some a65))) ∧
 ∃ n66 : Int, QRun Tryd.prog (Instr.loadAt 3 (.pointer ((some a65)))) H61 (.int .i64 n66) ∧
 HCall Tryd.prog base 70 #[(.bool b64), (.int .i64 n66), (.pointer ((some x5)))] H61 fun v67 H68 =>
 ∃ b69 : Bool, v67 = (.bool b69) ∧ K (.bool b69) H68
 else
 K (.bool false) H61
 else
 K (.bool false) H0
 else
 K (.bool false) H0
def circuit_right.T1 (base : Nat) (x4 x5 x7 : Addr) (x9 x10 : Bool) (H0 : HH) (K : Value → HH → Prop) : Prop := circuit_right.S1 base x4 x5 x7 x9 x10 H0 K
theorem circuit_right.rest1 {base : Nat} {x4 x5 x7 : Addr} {x9 x10 : Bool} {H0 : HH} {K : Value → HH → Prop} (h : circuit_right.S1 base x4 x5 x7 x9 x10 H0 K) : circuit_right.R1 base [(.pointer ((some x4))), (.pointer ((some x5))), (.pointer ((some x7))), (.bool x9), (.bool x10)] H0 K := by
  refine wpCL_sound (ann := circuit_right.ann) mix (fun fr ⟨e4, e5, e7, e9, e10, _⟩ => ?_)
  rw [← ov_eq (g := fr) [(4, (.pointer ((some x4)))), (5, (.pointer ((some x5)))), (7, (.pointer ((some x7)))), (9, (.bool x9)), (10, (.bool x10))] (by simp only [List.mem_cons, List.not_mem_nil, or_false, forall_eq_or_imp, forall_eq, false_implies, implies_true]; exact ⟨e4, e5, e7, e9, e10⟩)]
  exact cast (show circuit_right.S1 base x4 x5 x7 x9 x10 H0 K = wpC Tryd.prog base 84 circuit_right.ann (codeAt [.r, .r, .r, .r, .r] (bodyOf Tryd.f58)) (ov fr [(4, (.pointer ((some x4)))), (5, (.pointer ((some x5)))), (7, (.pointer ((some x7)))), (9, (.bool x9)), (10, (.bool x10))]) H0 (qAt Tryd.prog base 84 circuit_right.ann [.r, .r, .r, .r, .r] [] (bodyOf Tryd.f58) (retQ Tryd.prog 84 Tryd.f58 K)) by kernel_rfl) h
theorem circuit_right.cut1 {base : Nat} {x4 x5 x7 : Addr} {x9 x10 : Bool} {H0 : HH} {K : Value → HH → Prop} (h : circuit_right.T1 base x4 x5 x7 x9 x10 H0 K) : circuit_right.R1 base [(.pointer ((some x4))), (.pointer ((some x5))), (.pointer ((some x7))), (.bool x9), (.bool x10)] H0 K := circuit_right.rest1 h
def circuit_right.sh (base : Nat) (x0 : Int) (x1_0 : Int) (x1_1 : Int) (x1_2 : Int) (x1_3 : Int) (x1_4 : Int) (x2 : Int) (H0 : HH) (K : Value → HH → Prop) : Prop :=
 HRun Tryd.prog base (Instr.box 37 (.agg #[(.int .i64 x1_0), (.int .i64 x1_1), (.int .i64 x1_2), (.int .i64 x1_3), (.int .u64 x1_4)])) H0 fun v1 H2 =>
 ∃ a3 : Addr, v1 = (.pointer ((some a3))) ∧ HRun Tryd.prog base (Instr.box 3 (.int .i64 x2)) H2 fun v4 H5 =>
 ∃ a6 : Addr, v4 = (.pointer ((some a6))) ∧ ∃ n7 : Int, ∃ n8 : Int, ∃ n9 : Int, ∃ n10 : Int, ∃ n11 : Int, QRun Tryd.prog (Instr.loadAt 37 (.pointer ((some a3)))) H5 (.agg #[(.int .i64 n7), (.int .i64 n8), (.int .i64 n9), (.int .i64 n10), (.int .u64 n11)]) ∧
 HCall Tryd.prog base 69 #[(.agg #[(.int .i64 n7), (.int .i64 n8), (.int .i64 n9), (.int .i64 n10), (.int .u64 n11)])] H5 fun v12 H13 =>
 ∃ s14 : ByteArray, ∃ n15 : Int, ∃ b16 : Bool, ∃ b17 : Bool, ∃ b18 : Bool, ∃ b19 : Bool, ∃ b20 : Bool, ∃ b21 : Bool, v12 = (.tuple #[(.agg #[(.string s14), (.int .i64 n15), (.bool b16), (.bool b17), (.bool b18), (.bool b19), (.bool b20)]), (.bool b21)]) ∧ HRun Tryd.prog base (Instr.alloc 85 true (.tuple #[])) H13 fun v22 H23 =>
 ∃ a24 : Addr, v22 = (.pointer ((some a24))) ∧ HRun Tryd.prog base (Instr.storeAt 85 (.pointer ((some a24))) (.agg #[(.string s14), (.int .i64 n15), (.bool b16), (.bool b17), (.bool b18), (.bool b19), (.bool b20)])) H23 fun _ H25 =>
 if (!b21) = true then
 K (.bool false) H25
 else
 ∃ a26 : Addr, AQ Tryd.prog (Instr.fieldAt 85 (.pointer ((some a24))) 2) (.pointer ((some a26))) ∧
 ∃ b27 : Bool, QRun Tryd.prog (Instr.loadAt 4 (.pointer ((some a26)))) H25 (.bool b27) ∧
 if (!b27) = true then
 ∃ a28 : Addr, AQ Tryd.prog (Instr.fieldAt 37 (.pointer ((some a3))) 1) (.pointer ((some a28))) ∧
 ∃ n29 : Int, QRun Tryd.prog (Instr.loadAt 3 (.pointer ((some a28)))) H25 (.int .i64 n29) ∧
 if ((n29 : Int) == 0) = false then
 ∃ a30 : Addr, AQ Tryd.prog (Instr.fieldAt 85 (.pointer ((some a24))) 2) (.pointer ((some a30))) ∧
 ∃ b31 : Bool, QRun Tryd.prog (Instr.loadAt 4 (.pointer ((some a30)))) H25 (.bool b31) ∧
 if b31 = true then
 ∃ a32 : Addr, AQ Tryd.prog (Instr.fieldAt 37 (.pointer ((some a3))) 1) (.pointer ((some a32))) ∧
 ∃ n33 : Int, QRun Tryd.prog (Instr.loadAt 3 (.pointer ((some a32)))) H25 (.int .i64 n33) ∧
 if (decide ((n33 : Int) ≥ 1)) = true then
 ∃ a34 : Addr, AQ Tryd.prog (Instr.fieldAt 37 (.pointer ((some a3))) 1) (.pointer ((some a34))) ∧
 ∃ n35 : Int, QRun Tryd.prog (Instr.loadAt 3 (.pointer ((some a34)))) H25 (.int .i64 n35) ∧
 circuit_right.R0 base [(.int .u64 x0), (.pointer ((some a3))), (.pointer ((some a6))), (.pointer ((some a24))), (.bool ((decide ((n35 : Int) ≤ 13))))] H25 K
 else
 circuit_right.R0 base [(.int .u64 x0), (.pointer ((some a3))), (.pointer ((some a6))), (.pointer ((some a24))), (.bool false)] H25 K
 else
 circuit_right.R0 base [(.int .u64 x0), (.pointer ((some a3))), (.pointer ((some a6))), (.pointer ((some a24))), (.bool false)] H25 K
 else
 circuit_right.R0 base [(.int .u64 x0), (.pointer ((some a3))), (.pointer ((some a6))), (.pointer ((some a24))), (.bool true)] H25 K
 else
 ∃ a36 : Addr, AQ Tryd.prog (Instr.fieldAt 85 (.pointer ((some a24))) 2) (.pointer ((some a36))) ∧
 ∃ b37 : Bool, QRun Tryd.prog (Instr.loadAt 4 (.pointer ((some a36)))) H25 (.bool b37) ∧
 if b37 = true then
 ∃ a38 : Addr, AQ Tryd.prog (Instr.fieldAt 37 (.pointer ((some a3))) 1) (.pointer ((some a38))) ∧
 ∃ n39 : Int, QRun Tryd.prog (Instr.loadAt 3 (.pointer ((some a38)))) H25 (.int .i64 n39) ∧
 if (decide ((n39 : Int) ≥ 1)) = true then
 ∃ a40 : Addr, AQ Tryd.prog (Instr.fieldAt 37 (.pointer ((some a3))) 1) (.pointer ((some a40))) ∧
 ∃ n41 : Int, QRun Tryd.prog (Instr.loadAt 3 (.pointer ((some a40)))) H25 (.int .i64 n41) ∧
 circuit_right.R0 base [(.int .u64 x0), (.pointer ((some a3))), (.pointer ((some a6))), (.pointer ((some a24))), (.bool ((decide ((n41 : Int) ≤ 13))))] H25 K
 else
 circuit_right.R0 base [(.int .u64 x0), (.pointer ((some a3))), (.pointer ((some a6))), (.pointer ((some a24))), (.bool false)] H25 K
 else
 circuit_right.R0 base [(.int .u64 x0), (.pointer ((some a3))), (.pointer ((some a6))), (.pointer ((some a24))), (.bool false)] H25 K
theorem circuit_right.spec {base : Nat} {x0 : Int} {x1_0 : Int} {x1_1 : Int} {x1_2 : Int} {x1_3 : Int} {x1_4 : Int} {x2 : Int} {H0 : HH} {K : Value → HH → Prop} (h : circuit_right.sh base x0 x1_0 x1_1 x1_2 x1_3 x1_4 x2 H0 K) : HCall Tryd.prog base 58 #[(.int .u64 x0), (.agg #[(.int .i64 x1_0), (.int .i64 x1_1), (.int .i64 x1_2), (.int .i64 x1_3), (.int .u64 x1_4)]), (.int .i64 x2)] H0 K := spec_of_wpC (n := 84) (ann := circuit_right.ann) mix Tryd.func58 (by kernel_rfl) (cast (show circuit_right.sh base x0 x1_0 x1_1 x1_2 x1_3 x1_4 x2 H0 K = wpC Tryd.prog base 84 circuit_right.ann (bodyOf Tryd.f58) (ofL [(.int .u64 x0), (.agg #[(.int .i64 x1_0), (.int .i64 x1_1), (.int .i64 x1_2), (.int .i64 x1_3), (.int .u64 x1_4)]), (.int .i64 x2)]) H0 (retQ Tryd.prog 84 Tryd.f58 K) by kernel_rfl) h)
def circuit_Valid_1.ann : Ann := ⟨fun k => [], fun k => false, fun k => []⟩
def circuit_Valid_1.sh (base : Nat) (x0 : Int) (x1 : Addr) (H0 : HH) (K : Value → HH → Prop) : Prop :=
 if (decide ((x0 : Int) < 0)) = false then
 ∃ a1 : Addr, AQ Tryd.prog (Instr.fieldAt 26 (.pointer ((some x1))) 1) (.pointer ((some a1))) ∧
 ∃ (A2 : Option Addr) (l2 c2 : Nat), QRun Tryd.prog (Instr.loadAt 23 (.pointer ((some a1)))) H0 (.slice A2 l2 c2) ∧
 K (.bool ((decide ((x0 : Int) ≥ (((l2 : Nat) : Int)))))) H0
 else
 K (.bool true) H0
theorem circuit_Valid_1.spec {base : Nat} {x0 : Int} {x1 : Addr} {H0 : HH} {K : Value → HH → Prop} (h : circuit_Valid_1.sh base x0 x1 H0 K) : HCall Tryd.prog base 60 #[(.int .i64 x0), (.pointer ((some x1)))] H0 K := spec_of_wpC (n := 13) (ann := circuit_Valid_1.ann) mix Tryd.func60 (by kernel_rfl) (cast (show circuit_Valid_1.sh base x0 x1 H0 K = wpC Tryd.prog base 13 circuit_Valid_1.ann (bodyOf Tryd.f60) (ofL [(.int .i64 x0), (.pointer ((some x1)))]) H0 (retQ Tryd.prog 13 Tryd.f60 K) by kernel_rfl) h)
def slices_IndexFunc_Lint_int.ann : Ann := ⟨fun k => [], fun k => false, fun k => bif Nat.beq k 2 then [0, 1, 7, 8] else []⟩
def slices_IndexFunc_Lint_int.P0 (base : Nat) (l : List Value) (H0 : HH) (K : Value → HH → Prop) : Prop := HCodeL Tryd.prog base 19 (codeAt [.r, .l, .r, .b] (bodyOf Tryd.f71)) [0, 1, 7, 8] l H0 (qAt Tryd.prog base 19 slices_IndexFunc_Lint_int.ann [.r, .l, .r, .b] [] (bodyOf Tryd.f71) (retQ Tryd.prog 19 Tryd.f71 K))
def slices_IndexFunc_Lint_int.sh (base : Nat) (Ax0 : Option Addr) (lx0 cx0 : Nat) (x1_0 : Addr) (H0 : HH) (K : Value → HH → Prop) : Prop :=
 slices_IndexFunc_Lint_int.P0 base [(.slice Ax0 lx0 cx0), (.func (.func 60) #[] #[(.pointer ((some x1_0)))]), (.int .i64 (((lx0 : Nat) : Int))), (.int .i64 0)] H0 K
theorem slices_IndexFunc_Lint_int.spec {base : Nat} {Ax0 : Option Addr} {lx0 cx0 : Nat} {x1_0 : Addr} {H0 : HH} {K : Value → HH → Prop} (h : slices_IndexFunc_Lint_int.sh base Ax0 lx0 cx0 x1_0 H0 K) : HCall Tryd.prog base 71 #[(.slice Ax0 lx0 cx0), (.func (.func 60) #[] #[(.pointer ((some x1_0)))])] H0 K := spec_of_wpC (n := 19) (ann := slices_IndexFunc_Lint_int.ann) mix Tryd.func71 (by kernel_rfl) (cast (show slices_IndexFunc_Lint_int.sh base Ax0 lx0 cx0 x1_0 H0 K = wpC Tryd.prog base 19 slices_IndexFunc_Lint_int.ann (bodyOf Tryd.f71) (ofL [(.slice Ax0 lx0 cx0), (.func (.func 60) #[] #[(.pointer ((some x1_0)))])]) H0 (retQ Tryd.prog 19 Tryd.f71 K) by kernel_rfl) h)
def slices_IndexFunc_Lint_int.B0 (base : Nat) (Ax0 : Option Addr) (lx0 cx0 : Nat) (x1_0 : Addr) (x7 : Int) (y8 : Int) (g : Fr) (N0 : Value → HH → Prop) (H0 : HH) (K : Value → HH → Prop) : Prop :=
 if (decide ((y8 : Int) < x7)) = true then
 ∃ a1 : Addr, AQ Tryd.prog (Instr.indexAt 24 (.slice Ax0 lx0 cx0) (.int .i64 y8)) (.pointer ((some a1))) ∧
 ∃ n2 : Int, QRun Tryd.prog (Instr.loadAt 3 (.pointer ((some a1)))) H0 (.int .i64 n2) ∧
 HCall Tryd.prog base 60 #[(.int .i64 n2), (.pointer ((some x1_0)))] H0 fun v3 H4 =>
 ∃ b5 : Bool, v3 = (.bool b5) ∧ if b5 = true then
 K (.int .i64 y8) H4
 else
 N0 (.int .i64 ((IntKind.i64.wrap (y8 + 1)))) H4
 else
 K (.int .i64 ((-1))) H0
theorem slices_IndexFunc_Lint_int.loop0 {base : Nat} {Ax0 : Option Addr} {lx0 cx0 : Nat} {x1_0 : Addr} {x7 y8_i : Int} {H0 : HH} {K : Value → HH → Prop} (J : Nat → Int → HH → Prop) (n : Nat) (h0 : J n y8_i H0)
    (hs : ∀ (n : Nat) (y8 : Int) (g : Fr) (H0 : HH), J n y8 H0 → slices_IndexFunc_Lint_int.B0 base Ax0 lx0 cx0 x1_0 x7 y8 g (fun w8 H => ∃ n', n' < n ∧ ∃ (y8' : Int), w8 = (.int .i64 y8') ∧ J n' y8' H) H0 K) : slices_IndexFunc_Lint_int.P0 base [(.slice Ax0 lx0 cx0), (.func (.func 60) #[] #[(.pointer ((some x1_0)))]), (.int .i64 x7), (.int .i64 y8_i)] H0 K := by
  refine loop_rule (ann := slices_IndexFunc_Lint_int.ann) (body := codeAt [.r, .l, .r, .b, .lp] (bodyOf Tryd.f71)) mix (by kernel_rfl) 524080 (by kernel_rfl) [0, 1, 7] [(.slice Ax0 lx0 cx0), (.func (.func 60) #[] #[(.pointer ((some x1_0)))]), (.int .i64 x7)] (by kernel_rfl) (fun fr ⟨e0, e1, e7, e8, _⟩ => ⟨e0, e1, e7, trivial⟩) (fun n g H => ∃ (y8 : Int), g 8 = (.int .i64 y8) ∧ J n y8 H) n (fun fr ⟨e0, e1, e7, e8, _⟩ => ⟨y8_i, e8, h0⟩) ?_
  rintro n g H0 ⟨e0, e1, e7, _⟩ ⟨y8, e8, hJ⟩
  rw [← ov_eq (g := g) [(0, (.slice Ax0 lx0 cx0)), (1, (.func (.func 60) #[] #[(.pointer ((some x1_0)))])), (7, (.int .i64 x7)), (8, (.int .i64 y8))] (by simp only [List.mem_cons, List.not_mem_nil, or_false, forall_eq_or_imp, forall_eq, false_implies, implies_true]; exact ⟨e0, e1, e7, e8⟩)]
  have key : ∀ NN : Value → HH → Prop, slices_IndexFunc_Lint_int.B0 base Ax0 lx0 cx0 x1_0 x7 y8 g NN H0 K = wpC Tryd.prog base 19 slices_IndexFunc_Lint_int.ann (codeAt [.r, .l, .r, .b, .lp] (bodyOf Tryd.f71)) (ov g [(0, (.slice Ax0 lx0 cx0)), (1, (.func (.func 60) #[] #[(.pointer ((some x1_0)))])), (7, (.int .i64 x7)), (8, (.int .i64 y8))]) H0 (thenQ (fun fr H => NN (fr 8) H) (qAt Tryd.prog base 19 slices_IndexFunc_Lint_int.ann [.r, .l, .r, .b] [] (bodyOf Tryd.f71) (retQ Tryd.prog 19 Tryd.f71 K))) := fun NN => by kernel_rfl
  refine cast ?_ (hs n y8 g H0 hJ)
  refine (key (fun w8 H => ∃ n', n' < n ∧ ∃ (y8' : Int), w8 = (.int .i64 y8') ∧ J n' y8' H)).trans ?_
  kernel_rfl
def slices_ContainsFunc_Lint_int.ann : Ann := ⟨fun k => [], fun k => false, fun k => []⟩
def slices_ContainsFunc_Lint_int.sh (base : Nat) (Ax0 : Option Addr) (lx0 cx0 : Nat) (x1_0 : Addr) (H0 : HH) (K : Value → HH → Prop) : Prop :=
 HCall Tryd.prog base 71 #[(.slice Ax0 lx0 cx0), (.func (.func 60) #[] #[(.pointer ((some x1_0)))])] H0 fun v1 H2 =>
 ∃ n3 : Int, v1 = (.int .i64 n3) ∧ K (.bool ((decide ((n3 : Int) ≥ 0)))) H2
theorem slices_ContainsFunc_Lint_int.spec {base : Nat} {Ax0 : Option Addr} {lx0 cx0 : Nat} {x1_0 : Addr} {H0 : HH} {K : Value → HH → Prop} (h : slices_ContainsFunc_Lint_int.sh base Ax0 lx0 cx0 x1_0 H0 K) : HCall Tryd.prog base 59 #[(.slice Ax0 lx0 cx0), (.func (.func 60) #[] #[(.pointer ((some x1_0)))])] H0 K := spec_of_wpC (n := 9) (ann := slices_ContainsFunc_Lint_int.ann) mix Tryd.func59 (by kernel_rfl) (cast (show slices_ContainsFunc_Lint_int.sh base Ax0 lx0 cx0 x1_0 H0 K = wpC Tryd.prog base 9 slices_ContainsFunc_Lint_int.ann (bodyOf Tryd.f59) (ofL [(.slice Ax0 lx0 cx0), (.func (.func 60) #[] #[(.pointer ((some x1_0)))])]) H0 (retQ Tryd.prog 9 Tryd.f59 K) by kernel_rfl) h)
def circuit_Valid.ann : Ann := ⟨fun k => [], fun k => false, fun k => bif Nat.beq k 4 then [1, 22, 23, 24] else []⟩
def circuit_Valid.P0 (base : Nat) (l : List Value) (H0 : HH) (K : Value → HH → Prop) : Prop := HCodeL Tryd.prog base 41 (codeAt [.r, .r, .l, .r, .b] (bodyOf Tryd.f36)) [1, 22, 23, 24] l H0 (qAt Tryd.prog base 41 circuit_Valid.ann [.r, .r, .l, .r, .b] [] (bodyOf Tryd.f36) (retQ Tryd.prog 41 Tryd.f36 K))
def circuit_Valid.sh (base : Nat) (x0_0 : Int) (Ax0_1 : Option Addr) (lx0_1 cx0_1 : Nat) (Ax0_2 : Option Addr) (lx0_2 cx0_2 : Nat) (H0 : HH) (K : Value → HH → Prop) : Prop :=
 HRun Tryd.prog base (Instr.box 26 (.agg #[(.int .u64 x0_0), (.slice Ax0_1 lx0_1 cx0_1), (.slice Ax0_2 lx0_2 cx0_2)])) H0 fun v1 H2 =>
 ∃ a3 : Addr, v1 = (.pointer ((some a3))) ∧ ∃ a4 : Addr, AQ Tryd.prog (Instr.fieldAt 26 (.pointer ((some a3))) 0) (.pointer ((some a4))) ∧
 ∃ n5 : Int, QRun Tryd.prog (Instr.loadAt 22 (.pointer ((some a4)))) H2 (.int .u64 n5) ∧
 HCall Tryd.prog base 57 #[(.int .u64 n5)] H2 fun v6 H7 =>
 ∃ b8 : Bool, v6 = (.bool b8) ∧ if (!b8) = false then
 ∃ a9 : Addr, AQ Tryd.prog (Instr.fieldAt 26 (.pointer ((some a3))) 1) (.pointer ((some a9))) ∧
 ∃ (A10 : Option Addr) (l10 c10 : Nat), QRun Tryd.prog (Instr.loadAt 23 (.pointer ((some a9)))) H7 (.slice A10 l10 c10) ∧
 if (decide ((((l10 : Nat) : Int) : Int) > 20000)) = false then
 ∃ a11 : Addr, AQ Tryd.prog (Instr.fieldAt 26 (.pointer ((some a3))) 2) (.pointer ((some a11))) ∧
 ∃ (A12 : Option Addr) (l12 c12 : Nat), QRun Tryd.prog (Instr.loadAt 24 (.pointer ((some a11)))) H7 (.slice A12 l12 c12) ∧
 if (decide ((((l12 : Nat) : Int) : Int) > 1000)) = true then
 K (.bool false) H7
 else
 ∃ a13 : Addr, AQ Tryd.prog (Instr.fieldAt 26 (.pointer ((some a3))) 1) (.pointer ((some a13))) ∧
 ∃ (A14 : Option Addr) (l14 c14 : Nat), QRun Tryd.prog (Instr.loadAt 23 (.pointer ((some a13)))) H7 (.slice A14 l14 c14) ∧
 circuit_Valid.P0 base [(.pointer ((some a3))), (.slice A14 l14 c14), (.int .i64 (((l14 : Nat) : Int))), (.int .i64 0)] H7 K
 else
 K (.bool false) H7
 else
 K (.bool false) H7
theorem circuit_Valid.spec {base : Nat} {x0_0 : Int} {Ax0_1 : Option Addr} {lx0_1 cx0_1 : Nat} {Ax0_2 : Option Addr} {lx0_2 cx0_2 : Nat} {H0 : HH} {K : Value → HH → Prop} (h : circuit_Valid.sh base x0_0 Ax0_1 lx0_1 cx0_1 Ax0_2 lx0_2 cx0_2 H0 K) : HCall Tryd.prog base 36 #[(.agg #[(.int .u64 x0_0), (.slice Ax0_1 lx0_1 cx0_1), (.slice Ax0_2 lx0_2 cx0_2)])] H0 K := spec_of_wpC (n := 41) (ann := circuit_Valid.ann) mix Tryd.func36 (by kernel_rfl) (cast (show circuit_Valid.sh base x0_0 Ax0_1 lx0_1 cx0_1 Ax0_2 lx0_2 cx0_2 H0 K = wpC Tryd.prog base 41 circuit_Valid.ann (bodyOf Tryd.f36) (ofL [(.agg #[(.int .u64 x0_0), (.slice Ax0_1 lx0_1 cx0_1), (.slice Ax0_2 lx0_2 cx0_2)])]) H0 (retQ Tryd.prog 41 Tryd.f36 K) by kernel_rfl) h)
def circuit_Valid.B0 (base : Nat) (x1 : Addr) (Ax22 : Option Addr) (lx22 cx22 : Nat) (x23 : Int) (y24 : Int) (g : Fr) (N0 : Value → HH → Prop) (H0 : HH) (K : Value → HH → Prop) : Prop :=
 if (decide ((y24 : Int) < x23)) = true then
 ∃ a15 : Addr, AQ Tryd.prog (Instr.indexAt 23 (.slice Ax22 lx22 cx22) (.int .i64 y24)) (.pointer ((some a15))) ∧
 ∃ n16 : Int, ∃ n17 : Int, ∃ n18 : Int, ∃ n19 : Int, ∃ n20 : Int, QRun Tryd.prog (Instr.loadAt 37 (.pointer ((some a15)))) H0 (.agg #[(.int .i64 n16), (.int .i64 n17), (.int .i64 n18), (.int .i64 n19), (.int .u64 n20)]) ∧
 HRun Tryd.prog base (Instr.alloc 37 true (.tuple #[])) H0 fun v21 H22 =>
 ∃ a23 : Addr, v21 = (.pointer ((some a23))) ∧ HRun Tryd.prog base (Instr.storeAt 37 (.pointer ((some a23))) (.agg #[(.int .i64 n16), (.int .i64 n17), (.int .i64 n18), (.int .i64 n19), (.int .u64 n20)])) H22 fun _ H24 =>
 ∃ a25 : Addr, AQ Tryd.prog (Instr.fieldAt 26 (.pointer ((some x1))) 0) (.pointer ((some a25))) ∧
 ∃ n26 : Int, QRun Tryd.prog (Instr.loadAt 22 (.pointer ((some a25)))) H24 (.int .u64 n26) ∧
 ∃ n27 : Int, ∃ n28 : Int, ∃ n29 : Int, ∃ n30 : Int, ∃ n31 : Int, QRun Tryd.prog (Instr.loadAt 37 (.pointer ((some a23)))) H24 (.agg #[(.int .i64 n27), (.int .i64 n28), (.int .i64 n29), (.int .i64 n30), (.int .u64 n31)]) ∧
 HCall Tryd.prog base 58 #[(.int .u64 n26), (.agg #[(.int .i64 n27), (.int .i64 n28), (.int .i64 n29), (.int .i64 n30), (.int .u64 n31)]), (.int .i64 y24)] H24 fun v32 H33 =>
 ∃ b34 : Bool, v32 = (.bool b34) ∧ if (!b34) = true then
 K (.bool false) H33
 else
 N0 (.int .i64 ((IntKind.i64.wrap (y24 + 1)))) H33
 else
 ∃ a35 : Addr, AQ Tryd.prog (Instr.fieldAt 26 (.pointer ((some x1))) 2) (.pointer ((some a35))) ∧
 ∃ (A36 : Option Addr) (l36 c36 : Nat), QRun Tryd.prog (Instr.loadAt 24 (.pointer ((some a35)))) H0 (.slice A36 l36 c36) ∧
 HCall Tryd.prog base 59 #[(.slice A36 l36 c36), (.func (.func 60) #[] #[(.pointer ((some x1)))])] H0 fun v37 H38 =>
 ∃ b39 : Bool, v37 = (.bool b39) ∧ K (.bool ((!b39))) H38
theorem circuit_Valid.loop0 {base : Nat} {x1 : Addr} {Ax22 : Option Addr} {lx22 cx22 : Nat} {x23 y24_i : Int} {H0 : HH} {K : Value → HH → Prop} (J : Nat → Int → HH → Prop) (n : Nat) (h0 : J n y24_i H0)
    (hs : ∀ (n : Nat) (y24 : Int) (g : Fr) (H0 : HH), J n y24 H0 → circuit_Valid.B0 base x1 Ax22 lx22 cx22 x23 y24 g (fun w24 H => ∃ n', n' < n ∧ ∃ (y24' : Int), w24 = (.int .i64 y24') ∧ J n' y24' H) H0 K) : circuit_Valid.P0 base [(.pointer ((some x1))), (.slice Ax22 lx22 cx22), (.int .i64 x23), (.int .i64 y24_i)] H0 K := by
  refine loop_rule (ann := circuit_Valid.ann) (body := codeAt [.r, .r, .l, .r, .b, .lp] (bodyOf Tryd.f36)) mix (by kernel_rfl) 68702699548 (by kernel_rfl) [1, 22, 23] [(.pointer ((some x1))), (.slice Ax22 lx22 cx22), (.int .i64 x23)] (by kernel_rfl) (fun fr ⟨e1, e22, e23, e24, _⟩ => ⟨e1, e22, e23, trivial⟩) (fun n g H => ∃ (y24 : Int), g 24 = (.int .i64 y24) ∧ J n y24 H) n (fun fr ⟨e1, e22, e23, e24, _⟩ => ⟨y24_i, e24, h0⟩) ?_
  rintro n g H0 ⟨e1, e22, e23, _⟩ ⟨y24, e24, hJ⟩
  rw [← ov_eq (g := g) [(1, (.pointer ((some x1)))), (22, (.slice Ax22 lx22 cx22)), (23, (.int .i64 x23)), (24, (.int .i64 y24))] (by simp only [List.mem_cons, List.not_mem_nil, or_false, forall_eq_or_imp, forall_eq, false_implies, implies_true]; exact ⟨e1, e22, e23, e24⟩)]
  have key : ∀ NN : Value → HH → Prop, circuit_Valid.B0 base x1 Ax22 lx22 cx22 x23 y24 g NN H0 K = wpC Tryd.prog base 41 circuit_Valid.ann (codeAt [.r, .r, .l, .r, .b, .lp] (bodyOf Tryd.f36)) (ov g [(1, (.pointer ((some x1)))), (22, (.slice Ax22 lx22 cx22)), (23, (.int .i64 x23)), (24, (.int .i64 y24))]) H0 (thenQ (fun fr H => NN (fr 24) H) (qAt Tryd.prog base 41 circuit_Valid.ann [.r, .r, .l, .r, .b] [] (bodyOf Tryd.f36) (retQ Tryd.prog 41 Tryd.f36 K))) := fun NN => by kernel_rfl
  refine cast ?_ (hs n y24 g H0 hJ)
  refine (key (fun w24 H => ∃ n', n' < n ∧ ∃ (y24' : Int), w24 = (.int .i64 y24') ∧ J n' y24' H)).trans ?_
  kernel_rfl
def privityref06_SameList.ann : Ann := ⟨fun k => bif Nat.beq k 6 then [] else [], fun k => false, fun k => bif Nat.beq k 4 then [0, 1, 5] else []⟩
def cleartext_counted.ann : Ann := ⟨fun k => bif Nat.beq k 1 then [2, 5] else bif Nat.beq k 12 then [] else bif Nat.beq k 14 then [] else [], fun k => bif Nat.beq k 2 then true else bif Nat.beq k 16 then true else bif Nat.beq k 26 then true else false, fun k => bif Nat.beq k 2 then [1, 2, 6, 7] else bif Nat.beq k 3 then [1, 2, 6, 7, 22, 23] else bif Nat.beq k 8 then [1, 2, 6, 7, 31, 32, 33] else bif Nat.beq k 16 then [1, 2, 6, 7, 11, 31, 32, 33] else bif Nat.beq k 20 then [6, 7, 12, 100, 101, 102] else bif Nat.beq k 26 then [6, 7, 12, 14, 100, 101, 102] else []⟩
def cleartext_counted.P0 (base : Nat) (l : List Value) (H0 : HH) (K : Value → HH → Prop) : Prop := HCodeL Tryd.prog base 128 (codeAt [.r, .r, .l, .r, .b] (bodyOf Tryd.f37)) [1, 2, 6, 7, 22, 23] l H0 (qAt Tryd.prog base 128 cleartext_counted.ann [.r, .r, .l, .r, .b] [] (bodyOf Tryd.f37) (retQ Tryd.prog 128 Tryd.f37 K))
def cleartext_counted.P2 (base : Nat) (l : List Value) (H0 : HH) (K : Value → HH → Prop) : Prop := HCodeL Tryd.prog base 128 (codeAt [.r, .r, .r, .r, .r, .l, .r, .b] (bodyOf Tryd.f37)) [6, 7, 12, 100, 101, 102] l H0 (qAt Tryd.prog base 128 cleartext_counted.ann [.r, .r, .r, .r, .r, .l, .r, .b] [] (bodyOf Tryd.f37) (retQ Tryd.prog 128 Tryd.f37 K))
def cleartext_counted.R1 (base : Nat) (N1 : Value → HH → Prop) (l : List Value) (H0 : HH) (K : Value → HH → Prop) : Prop := HCodeL Tryd.prog base 128 (codeAt [.r, .r, .r, .l, .r, .b, .lp, .r, .r, .l, .b, .r, .r, .r, .r, .r] (bodyOf Tryd.f37)) [1, 2, 6, 7, 11, 31, 32, 33] l H0 (qAt Tryd.prog base 128 cleartext_counted.ann [.r, .r, .r, .l, .r, .b, .lp, .r, .r, .l, .b, .r, .r, .r, .r, .r] [fun fr H => N1 (fr 33) H] (bodyOf Tryd.f37) (retQ Tryd.prog 128 Tryd.f37 K))
def cleartext_counted.R2 (base : Nat) (N2 : Value → Value → HH → Prop) (l : List Value) (H0 : HH) (K : Value → HH → Prop) : Prop := HCodeL Tryd.prog base 128 (codeAt [.r, .r, .r, .r, .r, .l, .r, .b, .lp, .r, .r, .l, .b, .r, .r, .r] (bodyOf Tryd.f37)) [6, 7, 12, 14, 100, 101, 102] l H0 (qAt Tryd.prog base 128 cleartext_counted.ann [.r, .r, .r, .r, .r, .l, .r, .b, .lp, .r, .r, .l, .b, .r, .r, .r] [fun fr H => N2 (fr 12) (fr 102) H] (bodyOf Tryd.f37) (retQ Tryd.prog 128 Tryd.f37 K))
def cleartext_counted.S0 (base : Nat) (Ax1 : Option Addr) (lx1 cx1 : Nat) (x2 : Addr) (Ax6 : Option Addr) (lx6 cx6 : Nat) (Ax7 : Option Addr) (lx7 cx7 : Nat) (H0 : HH) (K : Value → HH → Prop) : Prop :=
 cleartext_counted.P0 base [(.slice Ax1 lx1 cx1), (.pointer ((some x2))), (.slice Ax6 lx6 cx6), (.slice Ax7 lx7 cx7), (.int .i64 (((lx7 : Nat) : Int))), (.int .i64 0)] H0 K
def cleartext_counted.S1 (base : Nat) (N1 : Value → HH → Prop) (Ax1 : Option Addr) (lx1 cx1 : Nat) (x2 : Addr) (Ax6 : Option Addr) (lx6 cx6 : Nat) (Ax7 : Option Addr) (lx7 cx7 : Nat) (x11 : Int) (Ax31 : Option Addr) (lx31 cx31 : Nat) (x32 x33 : Int) (H0 : HH) (K : Value → HH → Prop) : Prop :=
 ∃ a65 : Addr, AQ Tryd.prog (Instr.indexAt 24 (.slice Ax6 lx6 cx6) (.int .i64 x11)) (.pointer ((some a65))) ∧
 ∃ n66 : Int, QRun Tryd.prog (Instr.loadAt 3 (.pointer ((some a65)))) H0 (.int .i64 n66) ∧
 ∃ a67 : Addr, AQ Tryd.prog (Instr.indexAt 24 (.slice Ax6 lx6 cx6) (.int .i64 x11)) (.pointer ((some a67))) ∧
 HRun Tryd.prog base (Instr.storeAt 3 (.pointer ((some a67))) (.int .i64 ((IntKind.i64.wrap (n66 + 1))))) H0 fun _ H68 =>
 N1 (.int .i64 ((IntKind.i64.wrap (x33 + 1)))) H68
def cleartext_counted.S2 (base : Nat) (N2 : Value → Value → HH → Prop) (Ax6 : Option Addr) (lx6 cx6 : Nat) (Ax7 : Option Addr) (lx7 cx7 : Nat) (Ax12 : Option Addr) (lx12 cx12 : Nat) (Ax14 : Option Addr) (lx14 cx14 : Nat) (Ax100 : Option Addr) (lx100 cx100 : Nat) (x101 x102 : Int) (H0 : HH) (K : Value → HH → Prop) : Prop :=
 HRun Tryd.prog base (Instr.buildSlice 27 1 #[(0, (.slice Ax14 lx14 cx14))]) H0 fun v69 H70 =>
 ∃ (A71 : Option Addr) (l71 c71 : Nat), v69 = (.slice A71 l71 c71) ∧ HRun Tryd.prog base (Builtin.append_ #[27, 27] 27 #[(.slice Ax12 lx12 cx12), (.slice A71 l71 c71)]) H70 fun v72 H73 =>
 ∃ (A74 : Option Addr) (l74 c74 : Nat), v72 = (.slice A74 l74 c74) ∧ N2 (.slice A74 l74 c74) (.int .i64 ((IntKind.i64.wrap (x102 + 1)))) H73
def cleartext_counted.B1 (base : Nat) (Ax1 : Option Addr) (lx1 cx1 : Nat) (x2 : Addr) (Ax6 : Option Addr) (lx6 cx6 : Nat) (Ax7 : Option Addr) (lx7 cx7 : Nat) (Ax31 : Option Addr) (lx31 cx31 : Nat) (x32 : Int) (y33 : Int) (g : Fr) (N1 : Value → HH → Prop) (H0 : HH) (K : Value → HH → Prop) : Prop :=
 if (decide ((y33 : Int) < x32)) = true then
 ∃ a20 : Addr, AQ Tryd.prog (Instr.indexAt 23 (.slice Ax31 lx31 cx31) (.int .i64 y33)) (.pointer ((some a20))) ∧
 ∃ n21 : Int, ∃ n22 : Int, ∃ n23 : Int, ∃ n24 : Int, ∃ n25 : Int, QRun Tryd.prog (Instr.loadAt 37 (.pointer ((some a20)))) H0 (.agg #[(.int .i64 n21), (.int .i64 n22), (.int .i64 n23), (.int .i64 n24), (.int .u64 n25)]) ∧
 HRun Tryd.prog base (Instr.alloc 37 true (.tuple #[])) H0 fun v26 H27 =>
 ∃ a28 : Addr, v26 = (.pointer ((some a28))) ∧ HRun Tryd.prog base (Instr.storeAt 37 (.pointer ((some a28))) (.agg #[(.int .i64 n21), (.int .i64 n22), (.int .i64 n23), (.int .i64 n24), (.int .u64 n25)])) H27 fun _ H29 =>
 ∃ a30 : Addr, AQ Tryd.prog (Instr.fieldAt 37 (.pointer ((some a28))) 0) (.pointer ((some a30))) ∧
 ∃ n31 : Int, QRun Tryd.prog (Instr.loadAt 3 (.pointer ((some a30)))) H29 (.int .i64 n31) ∧
 if ((n31 : Int) != 1) = true then
 N1 (.int .i64 ((IntKind.i64.wrap (y33 + 1)))) H29
 else
 ∃ a32 : Addr, AQ Tryd.prog (Instr.fieldAt 37 (.pointer ((some a28))) 1) (.pointer ((some a32))) ∧
 ∃ n33 : Int, QRun Tryd.prog (Instr.loadAt 3 (.pointer ((some a32)))) H29 (.int .i64 n33) ∧
 if (decide (((IntKind.i64.wrap (n33 - 1)) : Int) ≥ (((lx1 : Nat) : Int)))) = false then
 ∃ a34 : Addr, AQ Tryd.prog (Instr.indexAt 24 (.slice Ax6 lx6 cx6) (.int .i64 ((IntKind.i64.wrap (n33 - 1))))) (.pointer ((some a34))) ∧
 ∃ n35 : Int, QRun Tryd.prog (Instr.loadAt 3 (.pointer ((some a34)))) H29 (.int .i64 n35) ∧
 ∃ a36 : Addr, AQ Tryd.prog (Instr.indexAt 27 (.slice Ax1 lx1 cx1) (.int .i64 ((IntKind.i64.wrap (n33 - 1))))) (.pointer ((some a36))) ∧
 ∃ (A37 : Option Addr) (l37 c37 : Nat), QRun Tryd.prog (Instr.loadAt 30 (.pointer ((some a36)))) H29 (.slice A37 l37 c37) ∧
 if (decide ((n35 : Int) ≥ (((l37 : Nat) : Int)))) = false then
 ∃ a38 : Addr, AQ Tryd.prog (Instr.indexAt 27 (.slice Ax1 lx1 cx1) (.int .i64 ((IntKind.i64.wrap (n33 - 1))))) (.pointer ((some a38))) ∧
 ∃ (A39 : Option Addr) (l39 c39 : Nat), QRun Tryd.prog (Instr.loadAt 30 (.pointer ((some a38)))) H29 (.slice A39 l39 c39) ∧
 ∃ a40 : Addr, AQ Tryd.prog (Instr.indexAt 24 (.slice Ax6 lx6 cx6) (.int .i64 ((IntKind.i64.wrap (n33 - 1))))) (.pointer ((some a40))) ∧
 ∃ n41 : Int, QRun Tryd.prog (Instr.loadAt 3 (.pointer ((some a40)))) H29 (.int .i64 n41) ∧
 ∃ a42 : Addr, AQ Tryd.prog (Instr.indexAt 30 (.slice A39 l39 c39) (.int .i64 n41)) (.pointer ((some a42))) ∧
 ∃ n43 : Int, QRun Tryd.prog (Instr.loadAt 22 (.pointer ((some a42)))) H29 (.int .u64 n43) ∧
 ∃ a44 : Addr, AQ Tryd.prog (Instr.fieldAt 26 (.pointer ((some x2))) 0) (.pointer ((some a44))) ∧
 ∃ n45 : Int, QRun Tryd.prog (Instr.loadAt 22 (.pointer ((some a44)))) H29 (.int .u64 n45) ∧
 if (decide ((n43 : Int) ≥ n45)) = true then
 K (.tuple #[(.slice none 0 0), (.bool false)]) H29
 else
 ∃ a46 : Addr, AQ Tryd.prog (Instr.fieldAt 37 (.pointer ((some a28))) 4) (.pointer ((some a46))) ∧
 ∃ n47 : Int, QRun Tryd.prog (Instr.loadAt 22 (.pointer ((some a46)))) H29 (.int .u64 n47) ∧
 if ((n47 : Int) == 1) = true then
 ∃ a48 : Addr, AQ Tryd.prog (Instr.indexAt 27 (.slice Ax1 lx1 cx1) (.int .i64 ((IntKind.i64.wrap (n33 - 1))))) (.pointer ((some a48))) ∧
 ∃ (A49 : Option Addr) (l49 c49 : Nat), QRun Tryd.prog (Instr.loadAt 30 (.pointer ((some a48)))) H29 (.slice A49 l49 c49) ∧
 ∃ a50 : Addr, AQ Tryd.prog (Instr.indexAt 24 (.slice Ax6 lx6 cx6) (.int .i64 ((IntKind.i64.wrap (n33 - 1))))) (.pointer ((some a50))) ∧
 ∃ n51 : Int, QRun Tryd.prog (Instr.loadAt 3 (.pointer ((some a50)))) H29 (.int .i64 n51) ∧
 ∃ a52 : Addr, AQ Tryd.prog (Instr.indexAt 30 (.slice A49 l49 c49) (.int .i64 n51)) (.pointer ((some a52))) ∧
 ∃ n53 : Int, QRun Tryd.prog (Instr.loadAt 22 (.pointer ((some a52)))) H29 (.int .u64 n53) ∧
 if (decide ((n53 : Int) > 1)) = true then
 ∃ a54 : Addr, AQ Tryd.prog (Instr.indexAt 62 (.slice Ax7 lx7 cx7) (.int .i64 ((IntKind.i64.wrap (n33 - 1))))) (.pointer ((some a54))) ∧
 HRun Tryd.prog base (Instr.storeAt 4 (.pointer ((some a54))) (.bool false)) H29 fun _ H55 =>
 cleartext_counted.R1 base N1 [(.slice Ax1 lx1 cx1), (.pointer ((some x2))), (.slice Ax6 lx6 cx6), (.slice Ax7 lx7 cx7), (.int .i64 ((IntKind.i64.wrap (n33 - 1)))), (.slice Ax31 lx31 cx31), (.int .i64 x32), (.int .i64 y33)] H55 K
 else
 cleartext_counted.R1 base N1 [(.slice Ax1 lx1 cx1), (.pointer ((some x2))), (.slice Ax6 lx6 cx6), (.slice Ax7 lx7 cx7), (.int .i64 ((IntKind.i64.wrap (n33 - 1)))), (.slice Ax31 lx31 cx31), (.int .i64 x32), (.int .i64 y33)] H29 K
 else
 cleartext_counted.R1 base N1 [(.slice Ax1 lx1 cx1), (.pointer ((some x2))), (.slice Ax6 lx6 cx6), (.slice Ax7 lx7 cx7), (.int .i64 ((IntKind.i64.wrap (n33 - 1)))), (.slice Ax31 lx31 cx31), (.int .i64 x32), (.int .i64 y33)] H29 K
 else
 K (.tuple #[(.slice none 0 0), (.bool false)]) H29
 else
 K (.tuple #[(.slice none 0 0), (.bool false)]) H29
 else
 cleartext_counted.P2 base [(.slice Ax6 lx6 cx6), (.slice Ax7 lx7 cx7), (.slice none 0 0), (.slice Ax1 lx1 cx1), (.int .i64 (((lx1 : Nat) : Int))), (.int .i64 0)] H0 K
def cleartext_counted.B2 (base : Nat) (Ax6 : Option Addr) (lx6 cx6 : Nat) (Ax7 : Option Addr) (lx7 cx7 : Nat) (Ax100 : Option Addr) (lx100 cx100 : Nat) (x101 : Int) (Ay12 : Option Addr) (ly12 cy12 : Nat) (y102 : Int) (g : Fr) (N2 : Value → Value → HH → Prop) (H0 : HH) (K : Value → HH → Prop) : Prop :=
 if (decide ((y102 : Int) < x101)) = true then
 ∃ a56 : Addr, AQ Tryd.prog (Instr.indexAt 27 (.slice Ax100 lx100 cx100) (.int .i64 y102)) (.pointer ((some a56))) ∧
 ∃ (A57 : Option Addr) (l57 c57 : Nat), QRun Tryd.prog (Instr.loadAt 30 (.pointer ((some a56)))) H0 (.slice A57 l57 c57) ∧
 ∃ a58 : Addr, AQ Tryd.prog (Instr.indexAt 24 (.slice Ax6 lx6 cx6) (.int .i64 y102)) (.pointer ((some a58))) ∧
 ∃ n59 : Int, QRun Tryd.prog (Instr.loadAt 3 (.pointer ((some a58)))) H0 (.int .i64 n59) ∧
 if ((n59 : Int) != (((l57 : Nat) : Int))) = true then
 K (.tuple #[(.slice none 0 0), (.bool false)]) H0
 else
 ∃ a60 : Addr, AQ Tryd.prog (Instr.indexAt 62 (.slice Ax7 lx7 cx7) (.int .i64 y102)) (.pointer ((some a60))) ∧
 ∃ b61 : Bool, QRun Tryd.prog (Instr.loadAt 4 (.pointer ((some a60)))) H0 (.bool b61) ∧
 if (!b61) = true then
 HRun Tryd.prog base (Instr.makeSlice 30 (.int .i64 (((l57 : Nat) : Int))) (.int .i64 (((l57 : Nat) : Int)))) H0 fun v62 H63 =>
 ∃ (A64 : Option Addr) (l64 c64 : Nat), v62 = (.slice A64 l64 c64) ∧ cleartext_counted.R2 base N2 [(.slice Ax6 lx6 cx6), (.slice Ax7 lx7 cx7), (.slice Ay12 ly12 cy12), (.slice A64 l64 c64), (.slice Ax100 lx100 cx100), (.int .i64 x101), (.int .i64 y102)] H63 K
 else
 cleartext_counted.R2 base N2 [(.slice Ax6 lx6 cx6), (.slice Ax7 lx7 cx7), (.slice Ay12 ly12 cy12), (.slice A57 l57 c57), (.slice Ax100 lx100 cx100), (.int .i64 x101), (.int .i64 y102)] H0 K
 else
 K (.tuple #[(.slice Ay12 ly12 cy12), (.bool true)]) H0
def cleartext_gates_1.ann : Ann := ⟨fun k => bif Nat.beq k 1 then [] else bif Nat.beq k 2 then [10] else [], fun k => false, fun k => []⟩
def cleartext_gates_2.ann : Ann := ⟨fun k => [], fun k => false, fun k => []⟩
def cleartext_gates_3.ann : Ann := ⟨fun k => bif Nat.beq k 1 then [] else [], fun k => false, fun k => []⟩
def cleartext_gates_4.ann : Ann := ⟨fun k => bif Nat.beq k 1 then [] else [], fun k => false, fun k => []⟩
def cleartext_gates_5.ann : Ann := ⟨fun k => bif Nat.beq k 1 then [] else [], fun k => false, fun k => []⟩
def cleartext_gates_6.ann : Ann := ⟨fun k => bif Nat.beq k 1 then [] else [], fun k => false, fun k => []⟩
def cleartext_EvaluateGates.ann : Ann := ⟨fun k => bif Nat.beq k 10 then [11, 12, 13, 16] else [], fun k => false, fun k => bif Nat.beq k 8 then [8, 28, 29, 30] else []⟩
def cleartext_Evaluate.ann : Ann := ⟨fun k => [], fun k => false, fun k => bif Nat.beq k 6 then [6, 8, 21, 22, 23] else []⟩
end Go.Proofs.YtjpaichcaaacbaaDoor.HL
end
section
set_option linter.unusedVariables false
namespace Go.Proofs.YtjpaichcaaacbaaDoor.HL
open Go
theorem aq_ix {P : Program} {t e sz : Nat} (ht : P.underlying t = some (.slice e)) (hs : (P.info? e).map (·.size) = some sz) {ad : Addr} {n c : Nat} {k : IntKind} {i : Int} (h0 : 0 ≤ i) (h1 : i < n) :
    AQ P (Instr.indexAt t (.slice (some ad) n c) (.int k i)) (.pointer (some (ad.add (i.toNat * sz)))) := fun W => by
  simp [Instr.indexAt, run_under ht, asIntOf, h0, h1, run_sz hs]
theorem info22 : (Tryd.prog.info? 22).map (·.size) = some 1 := by kernel_rfl
theorem info32 : (Tryd.prog.info? 30).map (·.size) = some 1 := by kernel_rfl
theorem info3 : (Tryd.prog.info? 3).map (·.size) = some 1 := by kernel_rfl
theorem sc22 : scalarB Tryd.prog 22 = true := by kernel_rfl
theorem sc32 : scalarB Tryd.prog 30 = true := by kernel_rfl
theorem sc3 : scalarB Tryd.prog 3 = true := by kernel_rfl
theorem un32 : Tryd.prog.underlying 30 = some (.slice 22) := by kernel_rfl
theorem un23 : Tryd.prog.underlying 27 = some (.slice 30) := by kernel_rfl
theorem un57 : Tryd.prog.underlying 24 = some (.slice 3) := by kernel_rfl
theorem w63 {n : Int} (h0 : 0 ≤ n) (h1 : n < 9223372036854775807) : IntKind.i64.wrap (n + 1) = n + 1 := by
  unfold IntKind.wrap
  simp [IntKind.bits, IntKind.signed]
  omega
theorem Rd.at {H : HH} {A : Option Addr} {xs : List Value} (h : Rd H A xs) {i : Nat} {u : Value} (hu : xs[i]? = some u) : ∃ ad, A = some ad ∧ cellH H (ad.add i) = some u := h.get hu
/-- Words as values. -/
def us (l : List Int) : List Value := l.map (Value.int .u64)
def is (l : List Int) : List Value := l.map (Value.int .i64)
@[simp] theorem us_length (l : List Int) : (us l).length = l.length := by simp [us]
def Row (H : HH) (A : Option Addr) (n : Nat) (l : List Int) : Prop := n = l.length ∧ Rd H A (us l)
def Mat (H : HH) (A : Option Addr) (n : Nat) (m : List (List Int)) : Prop := n = m.length ∧ ∃ rs : List Value, rs.length = m.length ∧ Rd H A rs ∧ ∀ (i : Nat) (l : List Int), m[i]? = some l → ∃ A' c, rs[i]? = some (.slice A' l.length c) ∧ Rd H A' (us l)
section
variable {H : HH} {A : Option Addr} {n c : Nat} {l : List Int} {m : List (List Int)} {i : Int}
theorem Row.ext {H' : HH} (h : Row H A n l) (he : Ext H H') : Row H' A n l := ⟨h.1, h.2.ext he⟩
theorem Mat.ext {H' : HH} (h : Mat H A n m) (he : Ext H H') : Mat H' A n m := by
  obtain ⟨h1, rs, h2, h3, h4⟩ := h
  exact ⟨h1, rs, h2, h3.ext he, fun i l hl => by obtain ⟨A', c, h5, h6⟩ := h4 i l hl; exact ⟨A', c, h5, h6.ext he⟩⟩
theorem Row.nil : Row H none 0 [] := ⟨rfl, .inl rfl⟩
theorem Mat.nil : Mat H none 0 [] := ⟨rfl, [], rfl, .inl rfl, fun i l h => by simp at h⟩
theorem Row.at (h : Row H A n l) (c : Nat) (h0 : 0 ≤ i) (h1 : i < n) : ∃ a, AQ Tryd.prog (Instr.indexAt 30 (.slice A n c) (.int .i64 i)) (.pointer (some a)) ∧ QRun Tryd.prog (Instr.loadAt 22 (.pointer (some a))) H (.int .u64 (l.getD i.toNat 0)) := by
  obtain ⟨e, h⟩ := h
  have hi : i.toNat < l.length := by omega
  obtain ⟨ad, rfl, hc⟩ := h.at (i := i.toNat) (u := .int .u64 (l.getD i.toNat 0)) (by simp [us, hi])
  exact ⟨_, aq_ix un32 info22 h0 h1, q_ld sc22 (by rw [Nat.mul_one]; exact hc)⟩
theorem Mat.at (h : Mat H A n m) (c : Nat) (h0 : 0 ≤ i) (h1 : i < n) : ∃ a, AQ Tryd.prog (Instr.indexAt 27 (.slice A n c) (.int .i64 i)) (.pointer (some a)) ∧ ∃ A' c', QRun Tryd.prog (Instr.loadAt 30 (.pointer (some a))) H (.slice A' (m.getD i.toNat []).length c') ∧ Row H A' (m.getD i.toNat []).length (m.getD i.toNat []) := by
  obtain ⟨e, rs, h2, h3, h4⟩ := h
  have hi : i.toNat < m.length := by omega
  obtain ⟨A', c', h5, h6⟩ := h4 i.toNat (m.getD i.toNat []) (by simp [hi])
  obtain ⟨ad, rfl, hc⟩ := h3.at h5
  exact ⟨_, aq_ix un23 info32 h0 h1, A', c', q_ld sc32 (by rw [Nat.mul_one]; exact hc), rfl, h6⟩
end
end Go.Proofs.YtjpaichcaaacbaaDoor.HL
end
section
set_option linter.unusedVariables false
set_option linter.unusedSimpArgs false
set_option maxRecDepth 100000
namespace Go.Proofs.YtjpaichcaaacbaaDoor.HL
open Go
def privityref32_gate.ann : Ann := ⟨fun k => bif Nat.beq k 4 then [5, 7] else bif Nat.beq k 10 then [5, 7] else bif Nat.beq k 15 then [5, 7] else [], fun k => bif Nat.beq k 16 then true else false, fun k => bif Nat.beq k 16 then [1, 5, 7] else []⟩
def privityref32_gate.R0 (base : Nat) (l : List Value) (H0 : HH) (K : Value → HH → Prop) : Prop := HCodeL Tryd.prog base 116 (codeAt [.r, .r, .l, .r, .b, .r, .f, .r, .f, .r, .f, .r, .t, .r] (bodyOf Tryd.f45)) [1, 5, 7] l H0 (qAt Tryd.prog base 116 privityref32_gate.ann [.r, .r, .l, .r, .b, .r, .f, .r, .f, .r, .f, .r, .t, .r] [] (bodyOf Tryd.f45) (retQ Tryd.prog 116 Tryd.f45 K))
def privityref32_gate.S0 (base : Nat) (x1 : Int) (x5 x7 : Addr) (H0 : HH) (K : Value → HH → Prop) : Prop :=
 ∃ n108 : Int, ∃ n109 : Int, ∃ n110 : Int, ∃ n111 : Int, ∃ n112 : Int, QRun Tryd.prog (Instr.loadAt 37 (.pointer ((some x5)))) H0 (.agg #[(.int .i64 n108), (.int .i64 n109), (.int .i64 n110), (.int .i64 n111), (.int .u64 n112)]) ∧
 ∃ n113 : Int, ∃ n114 : Int, ∃ n115 : Int, ∃ n116 : Int, ∃ n117 : Int, QRun Tryd.prog (Instr.loadAt 37 (.pointer ((some x7)))) H0 (.agg #[(.int .i64 n113), (.int .i64 n114), (.int .i64 n115), (.int .i64 n116), (.int .u64 n117)]) ∧
 ∃ b118 : Bool, AQ Tryd.prog (binSem .eql 37 (.tmp 91) (.tmp 92) (.agg #[(.int .i64 n108), (.int .i64 n109), (.int .i64 n110), (.int .i64 n111), (.int .u64 n112)]) (.agg #[(.int .i64 n113), (.int .i64 n114), (.int .i64 n115), (.int .i64 n116), (.int .u64 n117)])) (.bool b118) ∧
 if b118 = true then
 ∃ a119 : Addr, AQ Tryd.prog (Instr.fieldAt 37 (.pointer ((some x5))) 2) (.pointer ((some a119))) ∧
 ∃ n120 : Int, QRun Tryd.prog (Instr.loadAt 3 (.pointer ((some a119)))) H0 (.int .i64 n120) ∧
 if (decide ((n120 : Int) ≥ 0)) = true then
 ∃ a121 : Addr, AQ Tryd.prog (Instr.fieldAt 37 (.pointer ((some x5))) 2) (.pointer ((some a121))) ∧
 ∃ n122 : Int, QRun Tryd.prog (Instr.loadAt 3 (.pointer ((some a121)))) H0 (.int .i64 n122) ∧
 if (decide ((n122 : Int) < x1)) = true then
 ∃ a123 : Addr, AQ Tryd.prog (Instr.fieldAt 37 (.pointer ((some x5))) 3) (.pointer ((some a123))) ∧
 ∃ n124 : Int, QRun Tryd.prog (Instr.loadAt 3 (.pointer ((some a123)))) H0 (.int .i64 n124) ∧
 if (decide ((n124 : Int) ≥ 0)) = true then
 ∃ a125 : Addr, AQ Tryd.prog (Instr.fieldAt 37 (.pointer ((some x5))) 3) (.pointer ((some a125))) ∧
 ∃ n126 : Int, QRun Tryd.prog (Instr.loadAt 3 (.pointer ((some a125)))) H0 (.int .i64 n126) ∧
 K (.bool ((decide ((n126 : Int) < x1)))) H0
 else
 K (.bool false) H0
 else
 K (.bool false) H0
 else
 K (.bool false) H0
 else
 K (.bool false) H0
def privityref32_gate.T0 (base : Nat) (x1 : Int) (x5 x7 : Addr) (H0 : HH) (K : Value → HH → Prop) : Prop := privityref32_gate.S0 base x1 x5 x7 H0 K
theorem privityref32_gate.rest0 {base : Nat} {x1 : Int} {x5 x7 : Addr} {H0 : HH} {K : Value → HH → Prop} (h : privityref32_gate.S0 base x1 x5 x7 H0 K) : privityref32_gate.R0 base [(.int .i64 x1), (.pointer ((some x5))), (.pointer ((some x7)))] H0 K := by
  refine wpCL_sound (ann := privityref32_gate.ann) mix (fun fr ⟨e1, e5, e7, _⟩ => ?_)
  rw [← ov_eq (g := fr) [(1, (.int .i64 x1)), (5, (.pointer ((some x5)))), (7, (.pointer ((some x7))))] (by simp only [List.mem_cons, List.not_mem_nil, or_false, forall_eq_or_imp, forall_eq, false_implies, implies_true]; exact ⟨e1, e5, e7⟩)]
  exact cast (show privityref32_gate.S0 base x1 x5 x7 H0 K = wpC Tryd.prog base 116 privityref32_gate.ann (codeAt [.r, .r, .l, .r, .b, .r, .f, .r, .f, .r, .f, .r, .t, .r] (bodyOf Tryd.f45)) (ov fr [(1, (.int .i64 x1)), (5, (.pointer ((some x5)))), (7, (.pointer ((some x7))))]) H0 (qAt Tryd.prog base 116 privityref32_gate.ann [.r, .r, .l, .r, .b, .r, .f, .r, .f, .r, .f, .r, .t, .r] [] (bodyOf Tryd.f45) (retQ Tryd.prog 116 Tryd.f45 K)) by kernel_rfl) h
theorem privityref32_gate.cut0 {base : Nat} {x1 : Int} {x5 x7 : Addr} {H0 : HH} {K : Value → HH → Prop} (h : privityref32_gate.T0 base x1 x5 x7 H0 K) : privityref32_gate.R0 base [(.int .i64 x1), (.pointer ((some x5))), (.pointer ((some x7)))] H0 K := privityref32_gate.rest0 h
def privityref32_gate.sh (base : Nat) (x0 : Int) (x1 : Int) (x2_0 : Int) (x2_1 : Int) (x2_2 : Int) (x2_3 : Int) (x2_4 : Int) (H0 : HH) (K : Value → HH → Prop) : Prop :=
 HRun Tryd.prog base (Instr.box 37 (.agg #[(.int .i64 x2_0), (.int .i64 x2_1), (.int .i64 x2_2), (.int .i64 x2_3), (.int .u64 x2_4)])) H0 fun v1 H2 =>
 ∃ a3 : Addr, v1 = (.pointer ((some a3))) ∧ ∃ a4 : Addr, AQ Tryd.prog (Instr.fieldAt 37 (.pointer ((some a3))) 0) (.pointer ((some a4))) ∧
 ∃ n5 : Int, QRun Tryd.prog (Instr.loadAt 3 (.pointer ((some a4)))) H2 (.int .i64 n5) ∧
 ∃ n6 : Int, ∃ n7 : Int, ∃ n8 : Int, ∃ n9 : Int, ∃ n10 : Int, AQ Tryd.prog (Instr.build 37 #[(0, (.int .i64 n5))]) (.agg #[(.int .i64 n6), (.int .i64 n7), (.int .i64 n8), (.int .i64 n9), (.int .u64 n10)]) ∧
 HRun Tryd.prog base (Instr.alloc 37 true (.tuple #[])) H2 fun v11 H12 =>
 ∃ a13 : Addr, v11 = (.pointer ((some a13))) ∧ HRun Tryd.prog base (Instr.storeAt 37 (.pointer ((some a13))) (.agg #[(.int .i64 n6), (.int .i64 n7), (.int .i64 n8), (.int .i64 n9), (.int .u64 n10)])) H12 fun _ H14 =>
 ∃ a15 : Addr, AQ Tryd.prog (Instr.fieldAt 37 (.pointer ((some a3))) 0) (.pointer ((some a15))) ∧
 ∃ n16 : Int, QRun Tryd.prog (Instr.loadAt 3 (.pointer ((some a15)))) H14 (.int .i64 n16) ∧
 if ((n16 : Int) == 1) = true then
 ∃ a17 : Addr, AQ Tryd.prog (Instr.fieldAt 37 (.pointer ((some a3))) 1) (.pointer ((some a17))) ∧
 ∃ n18 : Int, QRun Tryd.prog (Instr.loadAt 3 (.pointer ((some a17)))) H14 (.int .i64 n18) ∧
 ∃ a19 : Addr, AQ Tryd.prog (Instr.fieldAt 37 (.pointer ((some a3))) 4) (.pointer ((some a19))) ∧
 ∃ n20 : Int, QRun Tryd.prog (Instr.loadAt 22 (.pointer ((some a19)))) H14 (.int .u64 n20) ∧
 ∃ a21 : Addr, AQ Tryd.prog (Instr.fieldAt 37 (.pointer ((some a13))) 1) (.pointer ((some a21))) ∧
 HRun Tryd.prog base (Instr.storeAt 3 (.pointer ((some a21))) (.int .i64 n18)) H14 fun _ H22 =>
 QRun Tryd.prog (Instr.loadAt 22 (.pointer ((some a19)))) H22 (.int .u64 n20) ∧
 ∃ a23 : Addr, AQ Tryd.prog (Instr.fieldAt 37 (.pointer ((some a13))) 4) (.pointer ((some a23))) ∧
 HRun Tryd.prog base (Instr.storeAt 22 (.pointer ((some a23))) (.int .u64 n20)) H22 fun _ H24 =>
 ∃ n25 : Int, ∃ n26 : Int, ∃ n27 : Int, ∃ n28 : Int, ∃ n29 : Int, QRun Tryd.prog (Instr.loadAt 37 (.pointer ((some a3)))) H24 (.agg #[(.int .i64 n25), (.int .i64 n26), (.int .i64 n27), (.int .i64 n28), (.int .u64 n29)]) ∧
 ∃ n30 : Int, ∃ n31 : Int, ∃ n32 : Int, ∃ n33 : Int, ∃ n34 : Int, QRun Tryd.prog (Instr.loadAt 37 (.pointer ((some a13)))) H24 (.agg #[(.int .i64 n30), (.int .i64 n31), (.int .i64 n32), (.int .i64 n33), (.int .u64 n34)]) ∧
 ∃ b35 : Bool, AQ Tryd.prog (binSem .eql 37 (.tmp 21) (.tmp 22) (.agg #[(.int .i64 n25), (.int .i64 n26), (.int .i64 n27), (.int .i64 n28), (.int .u64 n29)]) (.agg #[(.int .i64 n30), (.int .i64 n31), (.int .i64 n32), (.int .i64 n33), (.int .u64 n34)])) (.bool b35) ∧
 if b35 = true then
 ∃ a36 : Addr, AQ Tryd.prog (Instr.fieldAt 37 (.pointer ((some a3))) 1) (.pointer ((some a36))) ∧
 ∃ n37 : Int, QRun Tryd.prog (Instr.loadAt 3 (.pointer ((some a36)))) H24 (.int .i64 n37) ∧
 if (decide ((n37 : Int) ≥ 1)) = true then
 ∃ a38 : Addr, AQ Tryd.prog (Instr.fieldAt 37 (.pointer ((some a3))) 1) (.pointer ((some a38))) ∧
 ∃ n39 : Int, QRun Tryd.prog (Instr.loadAt 3 (.pointer ((some a38)))) H24 (.int .i64 n39) ∧
 if (decide ((n39 : Int) ≤ 13)) = true then
 ∃ a40 : Addr, AQ Tryd.prog (Instr.fieldAt 37 (.pointer ((some a3))) 4) (.pointer ((some a40))) ∧
 ∃ n41 : Int, QRun Tryd.prog (Instr.loadAt 22 (.pointer ((some a40)))) H24 (.int .u64 n41) ∧
 K (.bool ((decide ((n41 : Int) ≤ 1)))) H24
 else
 K (.bool false) H24
 else
 K (.bool false) H24
 else
 K (.bool false) H24
 else
 if ((n16 : Int) == 2) = true then
 ∃ a42 : Addr, AQ Tryd.prog (Instr.fieldAt 37 (.pointer ((some a3))) 4) (.pointer ((some a42))) ∧
 ∃ n43 : Int, QRun Tryd.prog (Instr.loadAt 22 (.pointer ((some a42)))) H14 (.int .u64 n43) ∧
 ∃ a44 : Addr, AQ Tryd.prog (Instr.fieldAt 37 (.pointer ((some a13))) 4) (.pointer ((some a44))) ∧
 HRun Tryd.prog base (Instr.storeAt 22 (.pointer ((some a44))) (.int .u64 n43)) H14 fun _ H45 =>
 ∃ n46 : Int, ∃ n47 : Int, ∃ n48 : Int, ∃ n49 : Int, ∃ n50 : Int, QRun Tryd.prog (Instr.loadAt 37 (.pointer ((some a3)))) H45 (.agg #[(.int .i64 n46), (.int .i64 n47), (.int .i64 n48), (.int .i64 n49), (.int .u64 n50)]) ∧
 ∃ n51 : Int, ∃ n52 : Int, ∃ n53 : Int, ∃ n54 : Int, ∃ n55 : Int, QRun Tryd.prog (Instr.loadAt 37 (.pointer ((some a13)))) H45 (.agg #[(.int .i64 n51), (.int .i64 n52), (.int .i64 n53), (.int .i64 n54), (.int .u64 n55)]) ∧
 ∃ b56 : Bool, AQ Tryd.prog (binSem .eql 37 (.tmp 44) (.tmp 45) (.agg #[(.int .i64 n46), (.int .i64 n47), (.int .i64 n48), (.int .i64 n49), (.int .u64 n50)]) (.agg #[(.int .i64 n51), (.int .i64 n52), (.int .i64 n53), (.int .i64 n54), (.int .u64 n55)])) (.bool b56) ∧
 if b56 = true then
 ∃ a57 : Addr, AQ Tryd.prog (Instr.fieldAt 37 (.pointer ((some a3))) 4) (.pointer ((some a57))) ∧
 ∃ n58 : Int, QRun Tryd.prog (Instr.loadAt 22 (.pointer ((some a57)))) H45 (.int .u64 n58) ∧
 K (.bool ((decide ((n58 : Int) < x0)))) H45
 else
 K (.bool false) H45
 else
 if ((n16 : Int) == 5) = true then
 ∃ a59 : Addr, AQ Tryd.prog (Instr.fieldAt 37 (.pointer ((some a3))) 4) (.pointer ((some a59))) ∧
 ∃ n60 : Int, QRun Tryd.prog (Instr.loadAt 22 (.pointer ((some a59)))) H14 (.int .u64 n60) ∧
 ∃ a61 : Addr, AQ Tryd.prog (Instr.fieldAt 37 (.pointer ((some a3))) 2) (.pointer ((some a61))) ∧
 ∃ n62 : Int, QRun Tryd.prog (Instr.loadAt 3 (.pointer ((some a61)))) H14 (.int .i64 n62) ∧
 ∃ a63 : Addr, AQ Tryd.prog (Instr.fieldAt 37 (.pointer ((some a13))) 4) (.pointer ((some a63))) ∧
 HRun Tryd.prog base (Instr.storeAt 22 (.pointer ((some a63))) (.int .u64 n60)) H14 fun _ H64 =>
 QRun Tryd.prog (Instr.loadAt 3 (.pointer ((some a61)))) H64 (.int .i64 n62) ∧
 ∃ a65 : Addr, AQ Tryd.prog (Instr.fieldAt 37 (.pointer ((some a13))) 2) (.pointer ((some a65))) ∧
 HRun Tryd.prog base (Instr.storeAt 3 (.pointer ((some a65))) (.int .i64 n62)) H64 fun _ H66 =>
 ∃ n67 : Int, ∃ n68 : Int, ∃ n69 : Int, ∃ n70 : Int, ∃ n71 : Int, QRun Tryd.prog (Instr.loadAt 37 (.pointer ((some a3)))) H66 (.agg #[(.int .i64 n67), (.int .i64 n68), (.int .i64 n69), (.int .i64 n70), (.int .u64 n71)]) ∧
 ∃ n72 : Int, ∃ n73 : Int, ∃ n74 : Int, ∃ n75 : Int, ∃ n76 : Int, QRun Tryd.prog (Instr.loadAt 37 (.pointer ((some a13)))) H66 (.agg #[(.int .i64 n72), (.int .i64 n73), (.int .i64 n74), (.int .i64 n75), (.int .u64 n76)]) ∧
 ∃ b77 : Bool, AQ Tryd.prog (binSem .eql 37 (.tmp 61) (.tmp 62) (.agg #[(.int .i64 n67), (.int .i64 n68), (.int .i64 n69), (.int .i64 n70), (.int .u64 n71)]) (.agg #[(.int .i64 n72), (.int .i64 n73), (.int .i64 n74), (.int .i64 n75), (.int .u64 n76)])) (.bool b77) ∧
 if b77 = true then
 ∃ a78 : Addr, AQ Tryd.prog (Instr.fieldAt 37 (.pointer ((some a3))) 4) (.pointer ((some a78))) ∧
 ∃ n79 : Int, QRun Tryd.prog (Instr.loadAt 22 (.pointer ((some a78)))) H66 (.int .u64 n79) ∧
 if (decide ((n79 : Int) < x0)) = true then
 ∃ a80 : Addr, AQ Tryd.prog (Instr.fieldAt 37 (.pointer ((some a3))) 2) (.pointer ((some a80))) ∧
 ∃ n81 : Int, QRun Tryd.prog (Instr.loadAt 3 (.pointer ((some a80)))) H66 (.int .i64 n81) ∧
 if (decide ((n81 : Int) ≥ 0)) = true then
 ∃ a82 : Addr, AQ Tryd.prog (Instr.fieldAt 37 (.pointer ((some a3))) 2) (.pointer ((some a82))) ∧
 ∃ n83 : Int, QRun Tryd.prog (Instr.loadAt 3 (.pointer ((some a82)))) H66 (.int .i64 n83) ∧
 K (.bool ((decide ((n83 : Int) < x1)))) H66
 else
 K (.bool false) H66
 else
 K (.bool false) H66
 else
 K (.bool false) H66
 else
 if ((n16 : Int) == 3) = true then
 if ((n16 : Int) == 3) = true then
 ∃ a84 : Addr, AQ Tryd.prog (Instr.fieldAt 37 (.pointer ((some a3))) 2) (.pointer ((some a84))) ∧
 ∃ n85 : Int, QRun Tryd.prog (Instr.loadAt 3 (.pointer ((some a84)))) H14 (.int .i64 n85) ∧
 ∃ a86 : Addr, AQ Tryd.prog (Instr.fieldAt 37 (.pointer ((some a3))) 3) (.pointer ((some a86))) ∧
 ∃ n87 : Int, QRun Tryd.prog (Instr.loadAt 3 (.pointer ((some a86)))) H14 (.int .i64 n87) ∧
 ∃ a88 : Addr, AQ Tryd.prog (Instr.fieldAt 37 (.pointer ((some a13))) 2) (.pointer ((some a88))) ∧
 HRun Tryd.prog base (Instr.storeAt 3 (.pointer ((some a88))) (.int .i64 n85)) H14 fun _ H89 =>
 QRun Tryd.prog (Instr.loadAt 3 (.pointer ((some a86)))) H89 (.int .i64 n87) ∧
 ∃ a90 : Addr, AQ Tryd.prog (Instr.fieldAt 37 (.pointer ((some a13))) 3) (.pointer ((some a90))) ∧
 HRun Tryd.prog base (Instr.storeAt 3 (.pointer ((some a90))) (.int .i64 n87)) H89 fun _ H91 =>
 privityref32_gate.R0 base [(.int .i64 x1), (.pointer ((some a3))), (.pointer ((some a13)))] H91 K
 else
 K (.bool false) H14
 else
 if ((n16 : Int) == 4) = true then
 if ((n16 : Int) == 4) = true then
 ∃ a92 : Addr, AQ Tryd.prog (Instr.fieldAt 37 (.pointer ((some a3))) 2) (.pointer ((some a92))) ∧
 ∃ n93 : Int, QRun Tryd.prog (Instr.loadAt 3 (.pointer ((some a92)))) H14 (.int .i64 n93) ∧
 ∃ a94 : Addr, AQ Tryd.prog (Instr.fieldAt 37 (.pointer ((some a3))) 3) (.pointer ((some a94))) ∧
 ∃ n95 : Int, QRun Tryd.prog (Instr.loadAt 3 (.pointer ((some a94)))) H14 (.int .i64 n95) ∧
 ∃ a96 : Addr, AQ Tryd.prog (Instr.fieldAt 37 (.pointer ((some a13))) 2) (.pointer ((some a96))) ∧
 HRun Tryd.prog base (Instr.storeAt 3 (.pointer ((some a96))) (.int .i64 n93)) H14 fun _ H97 =>
 QRun Tryd.prog (Instr.loadAt 3 (.pointer ((some a94)))) H97 (.int .i64 n95) ∧
 ∃ a98 : Addr, AQ Tryd.prog (Instr.fieldAt 37 (.pointer ((some a13))) 3) (.pointer ((some a98))) ∧
 HRun Tryd.prog base (Instr.storeAt 3 (.pointer ((some a98))) (.int .i64 n95)) H97 fun _ H99 =>
 privityref32_gate.R0 base [(.int .i64 x1), (.pointer ((some a3))), (.pointer ((some a13)))] H99 K
 else
 K (.bool false) H14
 else
 if ((n16 : Int) == 6) = true then
 ∃ a100 : Addr, AQ Tryd.prog (Instr.fieldAt 37 (.pointer ((some a3))) 2) (.pointer ((some a100))) ∧
 ∃ n101 : Int, QRun Tryd.prog (Instr.loadAt 3 (.pointer ((some a100)))) H14 (.int .i64 n101) ∧
 ∃ a102 : Addr, AQ Tryd.prog (Instr.fieldAt 37 (.pointer ((some a3))) 3) (.pointer ((some a102))) ∧
 ∃ n103 : Int, QRun Tryd.prog (Instr.loadAt 3 (.pointer ((some a102)))) H14 (.int .i64 n103) ∧
 ∃ a104 : Addr, AQ Tryd.prog (Instr.fieldAt 37 (.pointer ((some a13))) 2) (.pointer ((some a104))) ∧
 HRun Tryd.prog base (Instr.storeAt 3 (.pointer ((some a104))) (.int .i64 n101)) H14 fun _ H105 =>
 QRun Tryd.prog (Instr.loadAt 3 (.pointer ((some a102)))) H105 (.int .i64 n103) ∧
 ∃ a106 : Addr, AQ Tryd.prog (Instr.fieldAt 37 (.pointer ((some a13))) 3) (.pointer ((some a106))) ∧
 HRun Tryd.prog base (Instr.storeAt 3 (.pointer ((some a106))) (.int .i64 n103)) H105 fun _ H107 =>
 privityref32_gate.R0 base [(.int .i64 x1), (.pointer ((some a3))), (.pointer ((some a13)))] H107 K
 else
 K (.bool false) H14
theorem privityref32_gate.spec {base : Nat} {x0 : Int} {x1 : Int} {x2_0 : Int} {x2_1 : Int} {x2_2 : Int} {x2_3 : Int} {x2_4 : Int} {H0 : HH} {K : Value → HH → Prop} (h : privityref32_gate.sh base x0 x1 x2_0 x2_1 x2_2 x2_3 x2_4 H0 K) : HCall Tryd.prog base 45 #[(.int .u64 x0), (.int .i64 x1), (.agg #[(.int .i64 x2_0), (.int .i64 x2_1), (.int .i64 x2_2), (.int .i64 x2_3), (.int .u64 x2_4)])] H0 K := spec_of_wpC (n := 116) (ann := privityref32_gate.ann) mix Tryd.func45 (by kernel_rfl) (cast (show privityref32_gate.sh base x0 x1 x2_0 x2_1 x2_2 x2_3 x2_4 H0 K = wpC Tryd.prog base 116 privityref32_gate.ann (bodyOf Tryd.f45) (ofL [(.int .u64 x0), (.int .i64 x1), (.agg #[(.int .i64 x2_0), (.int .i64 x2_1), (.int .i64 x2_2), (.int .i64 x2_3), (.int .u64 x2_4)])]) H0 (retQ Tryd.prog 116 Tryd.f45 K) by kernel_rfl) h)
def privityref32_Valid.ann : Ann := ⟨fun k => bif Nat.beq k 6 then [8] else bif Nat.beq k 11 then [] else [], fun k => false, fun k => bif Nat.beq k 4 then [1, 3] else bif Nat.beq k 9 then [1, 4] else []⟩
def privityref32_Valid.P0 (base : Nat) (l : List Value) (H0 : HH) (K : Value → HH → Prop) : Prop := HCodeL Tryd.prog base 62 (codeAt [.r, .r, .l, .r, .b] (bodyOf Tryd.f25)) [1, 3] l H0 (qAt Tryd.prog base 62 privityref32_Valid.ann [.r, .r, .l, .r, .b] [] (bodyOf Tryd.f25) (retQ Tryd.prog 62 Tryd.f25 K))
def privityref32_Valid.P1 (base : Nat) (l : List Value) (H0 : HH) (K : Value → HH → Prop) : Prop := HCodeL Tryd.prog base 62 (codeAt [.r, .r, .r, .l, .r, .b] (bodyOf Tryd.f25)) [1, 4] l H0 (qAt Tryd.prog base 62 privityref32_Valid.ann [.r, .r, .r, .l, .r, .b] [] (bodyOf Tryd.f25) (retQ Tryd.prog 62 Tryd.f25 K))
def privityref32_Valid.sh (base : Nat) (x0_0 : Int) (Ax0_1 : Option Addr) (lx0_1 cx0_1 : Nat) (Ax0_2 : Option Addr) (lx0_2 cx0_2 : Nat) (H0 : HH) (K : Value → HH → Prop) : Prop :=
 HRun Tryd.prog base (Instr.box 26 (.agg #[(.int .u64 x0_0), (.slice Ax0_1 lx0_1 cx0_1), (.slice Ax0_2 lx0_2 cx0_2)])) H0 fun v1 H2 =>
 ∃ a3 : Addr, v1 = (.pointer ((some a3))) ∧ ∃ a4 : Addr, AQ Tryd.prog (Instr.fieldAt 26 (.pointer ((some a3))) 0) (.pointer ((some a4))) ∧
 ∃ n5 : Int, QRun Tryd.prog (Instr.loadAt 22 (.pointer ((some a4)))) H2 (.int .u64 n5) ∧
 HCall Tryd.prog base 44 #[(.int .u64 n5)] H2 fun v6 H7 =>
 ∃ b8 : Bool, v6 = (.bool b8) ∧ if (!b8) = false then
 ∃ a9 : Addr, AQ Tryd.prog (Instr.fieldAt 26 (.pointer ((some a3))) 1) (.pointer ((some a9))) ∧
 ∃ (A10 : Option Addr) (l10 c10 : Nat), QRun Tryd.prog (Instr.loadAt 23 (.pointer ((some a9)))) H7 (.slice A10 l10 c10) ∧
 if (decide ((((l10 : Nat) : Int) : Int) > 20000)) = false then
 ∃ a11 : Addr, AQ Tryd.prog (Instr.fieldAt 26 (.pointer ((some a3))) 2) (.pointer ((some a11))) ∧
 ∃ (A12 : Option Addr) (l12 c12 : Nat), QRun Tryd.prog (Instr.loadAt 24 (.pointer ((some a11)))) H7 (.slice A12 l12 c12) ∧
 if (decide ((((l12 : Nat) : Int) : Int) > 1000)) = true then
 K (.bool false) H7
 else
 privityref32_Valid.P0 base [(.pointer ((some a3))), (.int .i64 0)] H7 K
 else
 K (.bool false) H7
 else
 K (.bool false) H7
theorem privityref32_Valid.spec {base : Nat} {x0_0 : Int} {Ax0_1 : Option Addr} {lx0_1 cx0_1 : Nat} {Ax0_2 : Option Addr} {lx0_2 cx0_2 : Nat} {H0 : HH} {K : Value → HH → Prop} (h : privityref32_Valid.sh base x0_0 Ax0_1 lx0_1 cx0_1 Ax0_2 lx0_2 cx0_2 H0 K) : HCall Tryd.prog base 25 #[(.agg #[(.int .u64 x0_0), (.slice Ax0_1 lx0_1 cx0_1), (.slice Ax0_2 lx0_2 cx0_2)])] H0 K := spec_of_wpC (n := 62) (ann := privityref32_Valid.ann) mix Tryd.func25 (by kernel_rfl) (cast (show privityref32_Valid.sh base x0_0 Ax0_1 lx0_1 cx0_1 Ax0_2 lx0_2 cx0_2 H0 K = wpC Tryd.prog base 62 privityref32_Valid.ann (bodyOf Tryd.f25) (ofL [(.agg #[(.int .u64 x0_0), (.slice Ax0_1 lx0_1 cx0_1), (.slice Ax0_2 lx0_2 cx0_2)])]) H0 (retQ Tryd.prog 62 Tryd.f25 K) by kernel_rfl) h)
def privityref32_Valid.B0 (base : Nat) (x1 : Addr) (y3 : Int) (g : Fr) (N0 : Value → HH → Prop) (H0 : HH) (K : Value → HH → Prop) : Prop :=
 ∃ a13 : Addr, AQ Tryd.prog (Instr.fieldAt 26 (.pointer ((some x1))) 1) (.pointer ((some a13))) ∧
 ∃ (A14 : Option Addr) (l14 c14 : Nat), QRun Tryd.prog (Instr.loadAt 23 (.pointer ((some a13)))) H0 (.slice A14 l14 c14) ∧
 if (decide ((y3 : Int) < (((l14 : Nat) : Int)))) = true then
 ∃ a15 : Addr, AQ Tryd.prog (Instr.fieldAt 26 (.pointer ((some x1))) 0) (.pointer ((some a15))) ∧
 ∃ n16 : Int, QRun Tryd.prog (Instr.loadAt 22 (.pointer ((some a15)))) H0 (.int .u64 n16) ∧
 ∃ a17 : Addr, AQ Tryd.prog (Instr.fieldAt 26 (.pointer ((some x1))) 1) (.pointer ((some a17))) ∧
 ∃ (A18 : Option Addr) (l18 c18 : Nat), QRun Tryd.prog (Instr.loadAt 23 (.pointer ((some a17)))) H0 (.slice A18 l18 c18) ∧
 ∃ a19 : Addr, AQ Tryd.prog (Instr.indexAt 23 (.slice A18 l18 c18) (.int .i64 y3)) (.pointer ((some a19))) ∧
 ∃ n20 : Int, ∃ n21 : Int, ∃ n22 : Int, ∃ n23 : Int, ∃ n24 : Int, QRun Tryd.prog (Instr.loadAt 37 (.pointer ((some a19)))) H0 (.agg #[(.int .i64 n20), (.int .i64 n21), (.int .i64 n22), (.int .i64 n23), (.int .u64 n24)]) ∧
 HCall Tryd.prog base 45 #[(.int .u64 n16), (.int .i64 y3), (.agg #[(.int .i64 n20), (.int .i64 n21), (.int .i64 n22), (.int .i64 n23), (.int .u64 n24)])] H0 fun v25 H26 =>
 ∃ b27 : Bool, v25 = (.bool b27) ∧ if (!b27) = true then
 K (.bool false) H26
 else
 N0 (.int .i64 ((IntKind.i64.wrap (y3 + 1)))) H26
 else
 privityref32_Valid.P1 base [(.pointer ((some x1))), (.int .i64 0)] H0 K
theorem privityref32_Valid.loop0 {base : Nat} {x1 : Addr} {y3_i : Int} {H0 : HH} {K : Value → HH → Prop} (J : Nat → Int → HH → Prop) (n : Nat) (h0 : J n y3_i H0)
    (hs : ∀ (n : Nat) (y3 : Int) (g : Fr) (H0 : HH), J n y3 H0 → privityref32_Valid.B0 base x1 y3 g (fun w3 H => ∃ n', n' < n ∧ ∃ (y3' : Int), w3 = (.int .i64 y3') ∧ J n' y3' H) H0 K) : privityref32_Valid.P0 base [(.pointer ((some x1))), (.int .i64 y3_i)] H0 K := by
  refine loop_rule (ann := privityref32_Valid.ann) (body := codeAt [.r, .r, .l, .r, .b, .lp] (bodyOf Tryd.f25)) mix (by kernel_rfl) 274875809804 (by kernel_rfl) [1] [(.pointer ((some x1)))] (by kernel_rfl) (fun fr ⟨e1, e3, _⟩ => ⟨e1, trivial⟩) (fun n g H => ∃ (y3 : Int), g 3 = (.int .i64 y3) ∧ J n y3 H) n (fun fr ⟨e1, e3, _⟩ => ⟨y3_i, e3, h0⟩) ?_
  rintro n g H0 ⟨e1, _⟩ ⟨y3, e3, hJ⟩
  rw [← ov_eq (g := g) [(1, (.pointer ((some x1)))), (3, (.int .i64 y3))] (by simp only [List.mem_cons, List.not_mem_nil, or_false, forall_eq_or_imp, forall_eq, false_implies, implies_true]; exact ⟨e1, e3⟩)]
  have key : ∀ NN : Value → HH → Prop, privityref32_Valid.B0 base x1 y3 g NN H0 K = wpC Tryd.prog base 62 privityref32_Valid.ann (codeAt [.r, .r, .l, .r, .b, .lp] (bodyOf Tryd.f25)) (ov g [(1, (.pointer ((some x1)))), (3, (.int .i64 y3))]) H0 (thenQ (fun fr H => NN (fr 3) H) (qAt Tryd.prog base 62 privityref32_Valid.ann [.r, .r, .l, .r, .b] [] (bodyOf Tryd.f25) (retQ Tryd.prog 62 Tryd.f25 K))) := fun NN => by kernel_rfl
  refine cast ?_ (hs n y3 g H0 hJ)
  refine (key (fun w3 H => ∃ n', n' < n ∧ ∃ (y3' : Int), w3 = (.int .i64 y3') ∧ J n' y3' H)).trans ?_
  kernel_rfl
def privityref32_Valid.B1 (base : Nat) (x1 : Addr) (y4 : Int) (g : Fr) (N1 : Value → HH → Prop) (H0 : HH) (K : Value → HH → Prop) : Prop :=
 ∃ a28 : Addr, AQ Tryd.prog (Instr.fieldAt 26 (.pointer ((some x1))) 2) (.pointer ((some a28))) ∧
 ∃ (A29 : Option Addr) (l29 c29 : Nat), QRun Tryd.prog (Instr.loadAt 24 (.pointer ((some a28)))) H0 (.slice A29 l29 c29) ∧
 if (decide ((y4 : Int) < (((l29 : Nat) : Int)))) = true then
 ∃ a30 : Addr, AQ Tryd.prog (Instr.fieldAt 26 (.pointer ((some x1))) 2) (.pointer ((some a30))) ∧
 ∃ (A31 : Option Addr) (l31 c31 : Nat), QRun Tryd.prog (Instr.loadAt 24 (.pointer ((some a30)))) H0 (.slice A31 l31 c31) ∧
 ∃ a32 : Addr, AQ Tryd.prog (Instr.indexAt 24 (.slice A31 l31 c31) (.int .i64 y4)) (.pointer ((some a32))) ∧
 ∃ n33 : Int, QRun Tryd.prog (Instr.loadAt 3 (.pointer ((some a32)))) H0 (.int .i64 n33) ∧
 if (decide ((n33 : Int) < 0)) = false then
 ∃ a34 : Addr, AQ Tryd.prog (Instr.fieldAt 26 (.pointer ((some x1))) 2) (.pointer ((some a34))) ∧
 ∃ (A35 : Option Addr) (l35 c35 : Nat), QRun Tryd.prog (Instr.loadAt 24 (.pointer ((some a34)))) H0 (.slice A35 l35 c35) ∧
 ∃ a36 : Addr, AQ Tryd.prog (Instr.indexAt 24 (.slice A35 l35 c35) (.int .i64 y4)) (.pointer ((some a36))) ∧
 ∃ n37 : Int, QRun Tryd.prog (Instr.loadAt 3 (.pointer ((some a36)))) H0 (.int .i64 n37) ∧
 ∃ a38 : Addr, AQ Tryd.prog (Instr.fieldAt 26 (.pointer ((some x1))) 1) (.pointer ((some a38))) ∧
 ∃ (A39 : Option Addr) (l39 c39 : Nat), QRun Tryd.prog (Instr.loadAt 23 (.pointer ((some a38)))) H0 (.slice A39 l39 c39) ∧
 if (decide ((n37 : Int) ≥ (((l39 : Nat) : Int)))) = true then
 K (.bool false) H0
 else
 N1 (.int .i64 ((IntKind.i64.wrap (y4 + 1)))) H0
 else
 K (.bool false) H0
 else
 K (.bool true) H0
theorem privityref32_Valid.loop1 {base : Nat} {x1 : Addr} {y4_i : Int} {H0 : HH} {K : Value → HH → Prop} (J : Nat → Int → HH → Prop) (n : Nat) (h0 : J n y4_i H0)
    (hs : ∀ (n : Nat) (y4 : Int) (g : Fr) (H0 : HH), J n y4 H0 → privityref32_Valid.B1 base x1 y4 g (fun w4 H => ∃ n', n' < n ∧ ∃ (y4' : Int), w4 = (.int .i64 y4') ∧ J n' y4' H) H0 K) : privityref32_Valid.P1 base [(.pointer ((some x1))), (.int .i64 y4_i)] H0 K := by
  refine loop_rule (ann := privityref32_Valid.ann) (body := codeAt [.r, .r, .r, .l, .r, .b, .lp] (bodyOf Tryd.f25)) mix (by kernel_rfl) 4611685743549480980 (by kernel_rfl) [1] [(.pointer ((some x1)))] (by kernel_rfl) (fun fr ⟨e1, e4, _⟩ => ⟨e1, trivial⟩) (fun n g H => ∃ (y4 : Int), g 4 = (.int .i64 y4) ∧ J n y4 H) n (fun fr ⟨e1, e4, _⟩ => ⟨y4_i, e4, h0⟩) ?_
  rintro n g H0 ⟨e1, _⟩ ⟨y4, e4, hJ⟩
  rw [← ov_eq (g := g) [(1, (.pointer ((some x1)))), (4, (.int .i64 y4))] (by simp only [List.mem_cons, List.not_mem_nil, or_false, forall_eq_or_imp, forall_eq, false_implies, implies_true]; exact ⟨e1, e4⟩)]
  have key : ∀ NN : Value → HH → Prop, privityref32_Valid.B1 base x1 y4 g NN H0 K = wpC Tryd.prog base 62 privityref32_Valid.ann (codeAt [.r, .r, .r, .l, .r, .b, .lp] (bodyOf Tryd.f25)) (ov g [(1, (.pointer ((some x1)))), (4, (.int .i64 y4))]) H0 (thenQ (fun fr H => NN (fr 4) H) (qAt Tryd.prog base 62 privityref32_Valid.ann [.r, .r, .r, .l, .r, .b] [] (bodyOf Tryd.f25) (retQ Tryd.prog 62 Tryd.f25 K))) := fun NN => by kernel_rfl
  refine cast ?_ (hs n y4 g H0 hJ)
  refine (key (fun w4 H => ∃ n', n' < n ∧ ∃ (y4' : Int), w4 = (.int .i64 y4') ∧ J n' y4' H)).trans ?_
  kernel_rfl
def privityref33_Fits.ann : Ann := ⟨fun k => bif Nat.beq k 9 then [8] else bif Nat.beq k 14 then [] else [], fun k => false, fun k => bif Nat.beq k 2 then [1, 2, 5] else bif Nat.beq k 7 then [1, 2, 6] else bif Nat.beq k 12 then [1, 2, 6, 7] else []⟩
def privityref33_Fits.P2 (base : Nat) (N1 : Value → HH → Prop) (l : List Value) (H0 : HH) (K : Value → HH → Prop) : Prop := HCodeL Tryd.prog base 68 (codeAt [.r, .r, .l, .r, .b, .lp, .r, .l, .b, .r, .r, .b] (bodyOf Tryd.f38)) [1, 2, 6, 7] l H0 (qAt Tryd.prog base 68 privityref33_Fits.ann [.r, .r, .l, .r, .b, .lp, .r, .l, .b, .r, .r, .b] [fun fr H => N1 (fr 6) H] (bodyOf Tryd.f38) (retQ Tryd.prog 68 Tryd.f38 K))
def privityref33_Fits.B1 (base : Nat) (Ax1 : Option Addr) (lx1 cx1 : Nat) (x2 : Addr) (y6 : Int) (g : Fr) (N1 : Value → HH → Prop) (H0 : HH) (K : Value → HH → Prop) : Prop :=
 if (decide ((y6 : Int) < (((lx1 : Nat) : Int)))) = true then
 ∃ a16 : Addr, AQ Tryd.prog (Instr.indexAt 27 (.slice Ax1 lx1 cx1) (.int .i64 y6)) (.pointer ((some a16))) ∧
 ∃ (A17 : Option Addr) (l17 c17 : Nat), QRun Tryd.prog (Instr.loadAt 30 (.pointer ((some a16)))) H0 (.slice A17 l17 c17) ∧
 ∃ n18 : Int, ∃ (A19 : Option Addr) (l19 c19 : Nat), ∃ (A20 : Option Addr) (l20 c20 : Nat), QRun Tryd.prog (Instr.loadAt 26 (.pointer ((some x2)))) H0 (.agg #[(.int .u64 n18), (.slice A19 l19 c19), (.slice A20 l20 c20)]) ∧
 HCall Tryd.prog base 61 #[(.agg #[(.int .u64 n18), (.slice A19 l19 c19), (.slice A20 l20 c20)]), (.int .i64 ((IntKind.i64.wrap (y6 + 1))))] H0 fun v21 H22 =>
 ∃ n23 : Int, v21 = (.int .i64 n23) ∧ QRun Tryd.prog (Instr.loadAt 30 (.pointer ((some a16)))) H22 (.slice A17 l17 c17) ∧
 if ((((l17 : Nat) : Int) : Int) != n23) = true then
 K (.bool false) H22
 else
 privityref33_Fits.P2 base N1 [(.slice Ax1 lx1 cx1), (.pointer ((some x2))), (.int .i64 y6), (.int .i64 0)] H22 K
 else
 K (.bool true) H0
def privityref33_Fits.B2 (base : Nat) (N1 : Value → HH → Prop) (Ax1 : Option Addr) (lx1 cx1 : Nat) (x2 : Addr) (x6 : Int) (y7 : Int) (g : Fr) (N2 : Value → HH → Prop) (H0 : HH) (K : Value → HH → Prop) : Prop :=
 ∃ a24 : Addr, AQ Tryd.prog (Instr.indexAt 27 (.slice Ax1 lx1 cx1) (.int .i64 x6)) (.pointer ((some a24))) ∧
 ∃ (A25 : Option Addr) (l25 c25 : Nat), QRun Tryd.prog (Instr.loadAt 30 (.pointer ((some a24)))) H0 (.slice A25 l25 c25) ∧
 if (decide ((y7 : Int) < (((l25 : Nat) : Int)))) = true then
 ∃ a26 : Addr, AQ Tryd.prog (Instr.indexAt 27 (.slice Ax1 lx1 cx1) (.int .i64 x6)) (.pointer ((some a26))) ∧
 ∃ (A27 : Option Addr) (l27 c27 : Nat), QRun Tryd.prog (Instr.loadAt 30 (.pointer ((some a26)))) H0 (.slice A27 l27 c27) ∧
 ∃ a28 : Addr, AQ Tryd.prog (Instr.indexAt 30 (.slice A27 l27 c27) (.int .i64 y7)) (.pointer ((some a28))) ∧
 ∃ n29 : Int, QRun Tryd.prog (Instr.loadAt 22 (.pointer ((some a28)))) H0 (.int .u64 n29) ∧
 ∃ a30 : Addr, AQ Tryd.prog (Instr.fieldAt 26 (.pointer ((some x2))) 0) (.pointer ((some a30))) ∧
 ∃ n31 : Int, QRun Tryd.prog (Instr.loadAt 22 (.pointer ((some a30)))) H0 (.int .u64 n31) ∧
 if (decide ((n29 : Int) ≥ n31)) = true then
 K (.bool false) H0
 else
 N2 (.int .i64 ((IntKind.i64.wrap (y7 + 1)))) H0
 else
 N1 (.int .i64 ((IntKind.i64.wrap (x6 + 1)))) H0
def privityref33_inputCount.ann : Ann := ⟨fun k => [], fun k => false, fun k => bif Nat.beq k 3 then [1, 2, 5, 6] else []⟩
def privityref33_Counts.ann : Ann := ⟨fun k => bif Nat.beq k 8 then [] else [], fun k => bif Nat.beq k 10 then true else false, fun k => bif Nat.beq k 4 then [1, 2, 5, 6, 7] else bif Nat.beq k 10 then [1, 2, 5, 6, 7, 8] else bif Nat.beq k 13 then [1, 6, 9, 10] else []⟩
def privityref33_Counts.S0 (base : Nat) (N0 : Value → HH → Prop) (Ax1 : Option Addr) (lx1 cx1 : Nat) (x2 : Addr) (Ax5 : Option Addr) (lx5 cx5 : Nat) (Ax6 : Option Addr) (lx6 cx6 : Nat) (x7 : Int) (x8 : Addr) (H0 : HH) (K : Value → HH → Prop) : Prop :=
 ∃ a63 : Addr, AQ Tryd.prog (Instr.fieldAt 37 (.pointer ((some x8))) 1) (.pointer ((some a63))) ∧
 ∃ n64 : Int, QRun Tryd.prog (Instr.loadAt 3 (.pointer ((some a63)))) H0 (.int .i64 n64) ∧
 ∃ a65 : Addr, AQ Tryd.prog (Instr.indexAt 24 (.slice Ax5 lx5 cx5) (.int .i64 ((IntKind.i64.wrap (n64 - 1))))) (.pointer ((some a65))) ∧
 ∃ n66 : Int, QRun Tryd.prog (Instr.loadAt 3 (.pointer ((some a65)))) H0 (.int .i64 n66) ∧
 ∃ a67 : Addr, AQ Tryd.prog (Instr.indexAt 24 (.slice Ax5 lx5 cx5) (.int .i64 ((IntKind.i64.wrap (n64 - 1))))) (.pointer ((some a67))) ∧
 HRun Tryd.prog base (Instr.storeAt 3 (.pointer ((some a67))) (.int .i64 ((IntKind.i64.wrap (n66 + 1))))) H0 fun _ H68 =>
 N0 (.int .i64 ((IntKind.i64.wrap (x7 + 1)))) H68
def privityref33_Counts.B1 (base : Nat) (Ax1 : Option Addr) (lx1 cx1 : Nat) (Ax6 : Option Addr) (lx6 cx6 : Nat) (Ay9 : Option Addr) (ly9 cy9 : Nat) (y10 : Int) (g : Fr) (N1 : Value → Value → HH → Prop) (H0 : HH) (K : Value → HH → Prop) : Prop :=
 if (decide ((y10 : Int) < (((lx1 : Nat) : Int)))) = true then
 ∃ a42 : Addr, AQ Tryd.prog (Instr.indexAt 62 (.slice Ax6 lx6 cx6) (.int .i64 y10)) (.pointer ((some a42))) ∧
 ∃ b43 : Bool, QRun Tryd.prog (Instr.loadAt 4 (.pointer ((some a42)))) H0 (.bool b43) ∧
 if b43 = true then
 ∃ a44 : Addr, AQ Tryd.prog (Instr.indexAt 27 (.slice Ax1 lx1 cx1) (.int .i64 y10)) (.pointer ((some a44))) ∧
 ∃ (A45 : Option Addr) (l45 c45 : Nat), QRun Tryd.prog (Instr.loadAt 30 (.pointer ((some a44)))) H0 (.slice A45 l45 c45) ∧
 HRun Tryd.prog base (Instr.makeSlice 30 (.int .i64 (((l45 : Nat) : Int))) (.int .i64 (((l45 : Nat) : Int)))) H0 fun v46 H47 =>
 ∃ (A48 : Option Addr) (l48 c48 : Nat), v46 = (.slice A48 l48 c48) ∧ HRun Tryd.prog base (Instr.buildSlice 27 1 #[(0, (.slice A48 l48 c48))]) H47 fun v49 H50 =>
 ∃ (A51 : Option Addr) (l51 c51 : Nat), v49 = (.slice A51 l51 c51) ∧ HRun Tryd.prog base (Builtin.append_ #[27, 27] 27 #[(.slice Ay9 ly9 cy9), (.slice A51 l51 c51)]) H50 fun v52 H53 =>
 ∃ (A54 : Option Addr) (l54 c54 : Nat), v52 = (.slice A54 l54 c54) ∧ N1 (.slice A54 l54 c54) (.int .i64 ((IntKind.i64.wrap (y10 + 1)))) H53
 else
 ∃ a55 : Addr, AQ Tryd.prog (Instr.indexAt 27 (.slice Ax1 lx1 cx1) (.int .i64 y10)) (.pointer ((some a55))) ∧
 ∃ (A56 : Option Addr) (l56 c56 : Nat), QRun Tryd.prog (Instr.loadAt 30 (.pointer ((some a55)))) H0 (.slice A56 l56 c56) ∧
 HRun Tryd.prog base (Instr.buildSlice 27 1 #[(0, (.slice A56 l56 c56))]) H0 fun v57 H58 =>
 ∃ (A59 : Option Addr) (l59 c59 : Nat), v57 = (.slice A59 l59 c59) ∧ HRun Tryd.prog base (Builtin.append_ #[27, 27] 27 #[(.slice Ay9 ly9 cy9), (.slice A59 l59 c59)]) H58 fun v60 H61 =>
 ∃ (A62 : Option Addr) (l62 c62 : Nat), v60 = (.slice A62 l62 c62) ∧ N1 (.slice A62 l62 c62) (.int .i64 ((IntKind.i64.wrap (y10 + 1)))) H61
 else
 K (.slice Ay9 ly9 cy9) H0
def privityref33_EvaluateGates.ann : Ann := ⟨fun k => bif Nat.beq k 13 then [] else bif Nat.beq k 16 then [] else bif Nat.beq k 18 then [] else bif Nat.beq k 20 then [] else bif Nat.beq k 22 then [] else [], fun k => bif Nat.beq k 23 then true else false, fun k => bif Nat.beq k 7 then [2, 6, 7, 8, 9] else bif Nat.beq k 23 then [2, 6, 7, 8, 9, 11] else []⟩
def privityref33_EvaluateGates.S0 (base : Nat) (N0 : Value → Value → HH → Prop) (x2 : Addr) (Ax6 : Option Addr) (lx6 cx6 : Nat) (Ax7 : Option Addr) (lx7 cx7 : Nat) (Ax8 : Option Addr) (lx8 cx8 : Nat) (x9 x11 : Int) (H0 : HH) (K : Value → HH → Prop) : Prop :=
 HRun Tryd.prog base (Instr.buildSlice 30 1 #[(0, (.int .u64 x11))]) H0 fun v101 H102 =>
 ∃ (A103 : Option Addr) (l103 c103 : Nat), v101 = (.slice A103 l103 c103) ∧ HRun Tryd.prog base (Builtin.append_ #[30, 30] 30 #[(.slice Ax8 lx8 cx8), (.slice A103 l103 c103)]) H102 fun v104 H105 =>
 ∃ (A106 : Option Addr) (l106 c106 : Nat), v104 = (.slice A106 l106 c106) ∧ N0 (.slice A106 l106 c106) (.int .i64 ((IntKind.i64.wrap (x9 + 1)))) H105
def privityref33_Evaluate.ann : Ann := ⟨fun k => [], fun k => false, fun k => bif Nat.beq k 6 then [2, 6, 8, 9] else []⟩
def privityref33_Few.ann : Ann := ⟨fun k => [], fun k => false, fun k => bif Nat.beq k 4 then [1, 2, 7] else []⟩
end Go.Proofs.YtjpaichcaaacbaaDoor.HL
end
section
set_option linter.unusedVariables false
set_option linter.unusedSimpArgs false
namespace Go.Proofs.YtjpaichcaaacbaaDoor.HL
open Go
theorem nxt {j n : Nat} (h : j < n) (hn : n ≤ maxLen) : IntKind.i64.wrap ((j : Int) + 1) = ((j + 1 : Nat) : Int) := by
  rw [w63 (by omega) (by unfold maxLen at hn; omega)]; omega
section
end
end Go.Proofs.YtjpaichcaaacbaaDoor.HL
end
section
set_option linter.unusedVariables false
set_option linter.unusedSimpArgs false
namespace Go.Proofs.YtjpaichcaaacbaaDoor.HL
open Go
section
variable {base : Nat} {H : HH} {K : Value → HH → Prop} {A A' : Option Addr} {n n' c c' : Nat} {m : List (List Int)}
/-- No sizes that no machine has. -/
def Sz (m : List (List Int)) : Prop := m.length ≤ maxLen ∧ ∀ r ∈ m, r.length ≤ maxLen
theorem Sz.at (h : Sz m) {j : Nat} (hj : j < m.length) : (m.getD j []).length ≤ maxLen := h.2 _ (by simp [hj])
end
end Go.Proofs.YtjpaichcaaacbaaDoor.HL
end
section
set_option linter.unusedVariables false
set_option linter.unusedSimpArgs false
namespace Go.Proofs.YtjpaichcaaacbaaDoor.HL
open Go
theorem Grows.trans_ext {H H1 H2 : HH} {v v' : Value} (he : Ext H H1) (h : Grows H1 H2 v v') : Grows H H2 v v' :=
  ⟨fun b o hb ho => h.keep b o hb (he b o ho), h.at_.imp id (fun k b hb => he.none (k b hb))⟩
section
variable {P : Program} {base : Nat} {H : HH}
theorem h_push {t e by_ ty : Nat} {z : Value} (ht : P.underlying t = some (.slice e)) (hi : (P.info? e).map (fun i => (i.zero, i.size, i.bytes)) = some (some z, 1, by_)) (hz : z.cells = #[z]) (hby : by_ ≤ 128) {u v : Value} (hu : u.oneCell' = true) {n : Nat} {xs : List Value}
    (ho : Own base H e 1 v n xs) (hlim : n + 1 < 1099511627776) {C : Option Addr → Nat → Nat → HH → Prop}
    (h : ∀ A' c' H', Own base H' e 1 (.slice A' (n + 1) c') (n + 1) (xs ++ [u]) → Grows H H' v (.slice A' (n + 1) c') → C A' (n + 1) c' H') :
    HRun P base (Instr.buildSlice t 1 #[(0, u)]) H fun v1 H1 => ∃ (A : Option Addr) (l c : Nat), v1 = .slice A l c ∧ HRun P base (Builtin.append_ #[t, t] ty #[v, .slice A l c]) H1 fun v2 H2 => ∃ (A' : Option Addr) (l' c' : Nat), v2 = .slice A' l' c' ∧ C A' l' c' H2 := by
  have hc : u.cells = #[u] := by cases u <;> first | rfl | (simp [Value.oneCell'] at hu)
  have hfill : Instr.fill (fun i => some (i * 1, 1)) (madeCells z.cells (1 * 1)) [(0, u)] = some #[u] := by
    simp [Instr.fill, madeCells, hz, hc, show Array.range 1 = #[0] from by decide]
  refine h_lit (sz := 1) (z := z) (cs := #[u]) ht ?_ (by decide) hfill (by decide) (fun b hb hbase => ?_)
  · obtain ⟨i, h1, h2⟩ := Option.map_eq_some_iff.1 hi
    simp only [Prod.mk.injEq] at h2
    rw [h1]; simp [h2]
  · have he : Ext H (upd H b (.cells #[u] e)) := Ext.upd hb _
    refine ⟨_, _, _, rfl, h_app (m := 1) (ys := [u]) ht hi (by rw [hz]; rfl) (by decide) (ho.ext he) ?_ (by simp) (by simpa using hu) (by simp) (by omega) hby (fun A' c' H' h1 h2 => ⟨_, _, _, rfl, h A' c' H' h1 (h2.trans_ext he)⟩)⟩
    refine .inr ⟨_, rfl, fun i w hw => ?_⟩
    match i, hw with
    | 0, hw =>
      cases hw
      show cellH _ ((⟨b, 0, none⟩ : Addr).add 0) = _
      simp [Addr.add, cellH, upd_self]
end
/-- F is known in H, and v's block is not in F. -/
structure Frz (F H : HH) (v : Value) : Prop where
  ext : Ext F H
  off : ∀ b, v.ownBlock = some b → F b = none
section
variable {F H H' : HH} {v v' : Value}
theorem Frz.nil (H : HH) : Frz H H (.slice none 0 0) := ⟨.refl H, fun b hb => by simp [Value.ownBlock] at hb⟩
theorem Frz.grow (h : Frz F H v) (g : Grows H H' v v') : Frz F H' v' :=
  ⟨fun b o hb => g.keep b o (fun e => by rw [h.off b e] at hb; cases hb) (h.ext b o hb), fun b hb => by
    rcases g.at_ with e | e
    · exact h.off b (e ▸ hb)
    · exact h.ext.none (e b hb)⟩
theorem Frz.more (h : Frz F H v) (he : Ext H H') : Frz F H' v := ⟨h.ext.trans he, h.off⟩
end
end Go.Proofs.YtjpaichcaaacbaaDoor.HL
end
section
set_option linter.unusedVariables false
set_option linter.unusedSimpArgs false
set_option linter.unusedSectionVars false
namespace Go.Proofs.YtjpaichcaaacbaaDoor.HL
open Go Go.Proofs.YtjpaichcaaacbaaDoorNum Go.Proofs.YtjpaichcaaacbaaDoor.FEv
theorem inf22 : (Tryd.prog.info? 22).map (fun i => (i.zero, i.size, i.bytes)) = some (some (.int .u64 0), 1, 8) := by kernel_rfl
theorem inf32 : (Tryd.prog.info? 30).map (fun i => (i.zero, i.size, i.bytes)) = some (some (.slice none 0 0), 1, 24) := by kernel_rfl
theorem inf3 : (Tryd.prog.info? 3).map (fun i => (i.zero, i.size, i.bytes)) = some (some (.int .i64 0), 1, 8) := by kernel_rfl
section
variable {p : Nat} [NeZero p]
def vs (l : List (Fin p)) : List Int := l.map V
def ms (m : List (List (Fin p))) : List (List Int) := m.map vs
@[simp] theorem vs_length (l : List (Fin p)) : (vs l).length = l.length := by simp [vs]
@[simp] theorem ms_length (m : List (List (Fin p))) : (ms m).length = m.length := by simp [ms]
theorem ms_get (m : List (List (Fin p))) (j : Nat) : (ms m).getD j [] = vs (rowL m j) := by
  unfold ms rowL
  rw [List.getD_eq_getElem?_getD, List.getD_eq_getElem?_getD, List.getElem?_map]
  cases m[j]? <;> rfl
def Sm (m : List (List (Fin p))) : Prop := m.length ≤ 1000 ∧ ∀ r ∈ m, r.length ≤ 1000
theorem Sm.sz {m : List (List (Fin p))} (h : Sm m) : Sz (ms m) := ⟨by rw [ms_length]; have := h.1; unfold maxLen; omega, fun r hr => by
  obtain ⟨a, ha, rfl⟩ := List.mem_map.1 hr
  have := h.2 a ha
  rw [vs_length]; unfold maxLen; omega⟩
theorem Sm.row {m : List (List (Fin p))} (h : Sm m) {j : Nat} (hj : j < m.length) : (rowL m j).length ≤ 1000 := h.2 _ (by rw [rowL_lt hj]; exact List.getElem_mem hj)
section
variable {base : Nat} {H : HH} {K : Value → HH → Prop} {A A' : Option Addr} {n n' c c' : Nat}
theorem Own.row {n : Nat} {l : List Int} (h : Own base H 22 1 (.slice A n c) n (us l)) : Row H A n l := by
  obtain ⟨A', c', e, _, h2⟩ := h.slice
  cases e
  exact ⟨by have := h.1; rw [us_length] at this; omega, h2⟩
end
end
end Go.Proofs.YtjpaichcaaacbaaDoor.HL
end
section
set_option linter.unusedVariables false
set_option linter.unusedSimpArgs false
set_option linter.unusedSectionVars false
namespace Go.Proofs.YtjpaichcaaacbaaDoor.HL
open Go Go.Proofs.YtjpaichcaaacbaaDoorNum Go.Proofs.YtjpaichcaaacbaaDoor.FEv
section
variable {P : Program} {base : Nat} {H F : HH}
theorem Own.at {e n c : Nat} {A : Option Addr} {xs : List Value} (h : Own base H e 1 (.slice A n c) n xs) {j : Nat} (hj : j < n) : ∃ g cur, A = some ⟨g, 0, none⟩ ∧ base ≤ g ∧ H g = some (.cells cur e (0, 0)) ∧ j < cur.size ∧ ∀ (i : Nat) (u : Value), xs[i]? = some u → cur[i]? = some u := by
  obtain ⟨g, cap, cur, e1, e2, e3, e4, e5, e6⟩ := h.form (by omega)
  cases e1
  exact ⟨g, cur, rfl, e2, e3, by omega, e6⟩
theorem aq_own {t e : Nat} (ht : P.underlying t = some (.slice e)) (hs : (P.info? e).map (·.size) = some 1) {g n c : Nat} {k : IntKind} {j : Nat} (hj : j < n) : AQ P (Instr.indexAt t (.slice (some ⟨g, 0, none⟩) n c) (.int k j)) (.pointer (some ⟨g, j, none⟩)) := by
  have := aq_ix (ad := ⟨g, 0, none⟩) (c := c) (k := k) ht hs (i := j) (by omega) (n := n) (by omega)
  have e : (⟨g, 0, none⟩ : Addr).add ((j : Int).toNat * 1) = ⟨g, j, none⟩ := by rw [Int.toNat_natCast, Nat.mul_one]; unfold Addr.add; split <;> simp_all
  rwa [e] at this
theorem Frz.upd {v : Value} (h : Frz F H v) {g : Nat} (hg : F g = none) (o : Obj) : Frz F (upd H g o) v :=
  ⟨fun b x hx => by rw [upd_ne _ (fun e => by rw [e, hg] at hx; cases hx)]; exact h.ext b x hx, h.off⟩
end
/-- A matrix of the call's own, its rows frozen in F. -/
def OwnM (base : Nat) (F H : HH) (v : Value) (n : Nat) (m : List (List Int)) : Prop :=
  ∃ rs : List Value, Own base H 30 1 v n rs ∧ Frz F H v ∧ rs.length = m.length ∧ ∀ (i : Nat) (l : List Int), m[i]? = some l → ∃ A' c, rs[i]? = some (.slice A' l.length c) ∧ Rd F A' (us l)
section
variable {base : Nat} {H F : HH} {A : Option Addr} {n c : Nat} {m : List (List Int)}
theorem OwnM.nil (base : Nat) (H : HH) : OwnM base H H (.slice none 0 0) 0 [] := ⟨[], Own.nil _ _ _ _, Frz.nil _, rfl, fun i l h => by simp at h⟩
end
section
end
end Go.Proofs.YtjpaichcaaacbaaDoor.HL
end
section
set_option linter.unusedVariables false
set_option linter.unusedSimpArgs false
set_option linter.unusedSectionVars false
namespace Go.Proofs.YtjpaichcaaacbaaDoor.HL
open Go Go.Proofs.YtjpaichcaaacbaaDoorNum Go.Proofs.YtjpaichcaaacbaaDoor.FEv
theorem made1 (z : Value) (q : Nat) : madeCells #[z] q = Array.replicate q z := by
  apply Array.ext'
  rw [madeCells, Array.toList_map, Array.toList_range, Array.toList_replicate]
  apply List.ext_getElem?
  intro i
  rw [List.getElem?_map, List.getElem?_replicate]
  by_cases hi : i < q
  · rw [List.getElem?_eq_getElem (by simpa using hi), if_pos hi]
    simp [Nat.mod_one]
  · rw [List.getElem?_eq_none (by simpa using hi), if_neg hi]; rfl
theorem OwnM.more {base : Nat} {F H H' : HH} {v : Value} {n : Nat} {m : List (List Int)} (h : OwnM base F H v n m) (he : Ext H H') : OwnM base F H' v n m := by
  obtain ⟨rs, h1, h2, h3, h4⟩ := h
  exact ⟨rs, h1.ext he, h2.more he, h3, h4⟩
theorem OwnM.known {base : Nat} {F H : HH} {v : Value} {n : Nat} {m : List (List Int)} (h : OwnM base F H v n m) {b : Nat} (hb : v.ownBlock = some b) : H b ≠ none := by
  obtain ⟨rs, h1, h2, h3, h4⟩ := h
  obtain ⟨_, cur, hc⟩ := h1.known hb
  rw [hc]; simp
section
variable {p : Nat} [NeZero p] {base : Nat} {H : HH} {K : Value → HH → Prop} {A A' : Option Addr} {n n' c c' : Nat}
/-- What a product asks of its factors. -/
def fits (a b : List (List (Fin p))) : Prop := (∀ r ∈ a, r.length = (rowL a 0).length) ∧ (∀ r ∈ b, r.length = (rowL b 0).length) ∧ (rowL a 0).length = b.length
end
end Go.Proofs.YtjpaichcaaacbaaDoor.HL
end
section
set_option linter.unusedVariables false
set_option linter.unusedSimpArgs false
set_option linter.unusedSectionVars false
namespace Go.Proofs.YtjpaichcaaacbaaDoor.HL
open Go Go.Proofs.YtjpaichcaaacbaaDoorNum Go.Proofs.YtjpaichcaaacbaaDoor.FEv
theorem QRun.ext {α : Type} {P : Program} {s : Sem α} {H H' : HH} {v : α} (h : QRun P s H v) (he : Ext H H') : QRun P s H' v := fun W hs => h W (fun b o hb => hs b o (he b o hb))
theorem add0 (g j : Nat) : (⟨g, 0, none⟩ : Addr).add j = ⟨g, j, none⟩ := by unfold Addr.add; split <;> simp_all
theorem set_range {α : Type} {q i : Nat} (f g : Nat → α) (hi : i < q) (x : α) (hx : g i = x) (hg : ∀ k, k < q → k ≠ i → g k = f k) : ((List.range q).map f).set i x = (List.range q).map g := by
  apply List.ext_getElem?
  intro k
  rw [List.getElem?_set, List.getElem?_map, List.getElem?_map, List.length_map, List.length_range]
  by_cases hk : k < q
  · rw [List.getElem?_range hk]
    by_cases e : i = k
    · subst e; rw [if_pos rfl, if_pos hi]; simp [hx]
    · rw [if_neg e]; simp [hg k hk (fun h => e h.symm)]
  · rw [List.getElem?_eq_none (by simpa using hk)]
    split
    · omega
    · rfl
section
variable {p : Nat} [NeZero p] {base : Nat} {H : HH} {K : Value → HH → Prop} {A A' : Option Addr} {n n' c c' : Nat}
theorem us_set (l : List Int) (i : Nat) (x : Int) : (us l).set i (.int .u64 x) = us (l.set i x) := by simp [us, List.map_set]
end
end Go.Proofs.YtjpaichcaaacbaaDoor.HL
end

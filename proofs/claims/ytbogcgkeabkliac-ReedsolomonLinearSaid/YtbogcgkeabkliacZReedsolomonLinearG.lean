/- Part G of: The statement ReedsolomonLinear: the law answers true whatever its arguments; no condition. -/
import Derived.Test.YtbogcgkeabkliacZReedsolomonLinearF
import Derived.Maps.AppendAt
import Derived.Laws.MakeOwn
import Derived.Laws.OwnMore
import Derived.Laws.Rows
import Derived.Laws.Cells
import Derived.Laws.Entries
section
set_option linter.unusedSimpArgs false
set_option linter.unusedVariables false
namespace Go.Proofs.Ytbogcgkeabkliac.HL
open Go
theorem alloc_old (w : World) (o : Obj) (i : Nat) (h : i < w.heap.size) : (w.alloc o).heap[i]? = w.heap[i]? := by first | exact heap_alloc_old w o i h | exact heap_alloc_old w o h
def cellH (H : HH) (a : Addr) : Option Value :=
  match H a.block with
  | some (.cells c _ _) => if a.spot.isSome then none else c[a.off]?
  | _ => none
theorem cellH_sat {H : HH} {W : World} {a : Addr} {v : Value} (hs : Sat H W) (h : cellH H a = some v) : W.cell? a = some v := by
  unfold cellH at h
  cases hb : H a.block with
  | none => rw [hb] at h; cases h
  | some o =>
    rw [hb] at h
    unfold World.cell?
    rw [hs _ _ hb]
    exact h
/-- All that is known stays known. -/
def Ext (H H' : HH) : Prop := ∀ b o, H b = some o → H' b = some o
theorem Ext.refl (H : HH) : Ext H H := fun _ _ h => h
theorem Ext.trans {A B C : HH} (h : Ext A B) (k : Ext B C) : Ext A C := fun b o hb => k b o (h b o hb)
theorem upd_self (H : HH) (b : Nat) (o : Obj) : upd H b o b = some o := by simp [upd]
theorem upd_ne {H : HH} {b k : Nat} (o : Obj) (h : k ≠ b) : upd H b o k = H k := by simp [upd, h]
theorem Ext.upd {H : HH} {b : Nat} (h : H b = none) (o : Obj) : Ext H (upd H b o) := fun k x hk => by
  rw [upd_ne o (fun e => by rw [e, h] at hk; cases hk)]
  exact hk
theorem Ext.none {H H' : HH} (h : Ext H H') {b : Nat} (hb : H' b = none) : H b = none := by
  cases hh : H b with
  | none => rfl
  | some o => rw [h b o hh] at hb; cases hb
theorem cellH_ext {H H' : HH} (h : Ext H H') {a : Addr} {v : Value} (hc : cellH H a = some v) : cellH H' a = some v := by
  unfold cellH at hc ⊢
  cases hb : H a.block with
  | none => rw [hb] at hc; cases hc
  | some o => rw [hb] at hc; rw [h _ _ hb]; exact hc
theorem cellH_blk {H : HH} {b i T : Nat} {cs : Array Value} {z : Nat × Nat} (h : H b = some (.cells cs T z)) : cellH H ⟨b, i, none⟩ = cs[i]? := by simp [cellH, h]
section
variable {P : Program} {base : Nat} {H : HH}
theorem HRun.mono {α : Type} {s : Sem α} {K K' : α → HH → Prop} (h : HRun P base s H K) (hk : ∀ v H', K v H' → K' v H') : HRun P base s H K' := fun W hs hb => by
  obtain ⟨v, W', H', hr, hK, hto⟩ := h W hs hb
  exact ⟨v, W', H', hr, hk _ _ hK, hto⟩
theorem QRun.h {α : Type} {s : Sem α} {v : α} {K : α → HH → Prop} (h : QRun P s H v) (hk : K v H) : HRun P base s H K := fun W hs hb => ⟨v, W, H, h W hs, hk, .refl hs⟩
theorem HCall.use {f : FuncId} {args : Array Value} {Q K : Value → HH → Prop} (h : HCall P base f args H Q) (hk : ∀ v H', Q v H' → K v H') : HCall P base f args H K :=
  ⟨h.enter, fun W hs hb => (h.run W hs hb).mono (fun e W' ⟨v, H', he, hQ, hto⟩ => ⟨v, H', he, hk _ _ hQ, hto⟩)⟩
theorem HCall.less {f : FuncId} {args : Array Value} {Q : Value → HH → Prop} (h : HCall P base f args H (fun v H' => Ext H H' ∧ Q v H)) : HCall P base f args H (fun v H' => H' = H ∧ Q v H) :=
  ⟨h.enter, fun W hs hb => (h.run W hs hb).mono (fun e W' ⟨v, H', he, hQ, hto⟩ => ⟨v, H, he, ⟨rfl, hQ.2⟩, hto.less hQ.1⟩)⟩
theorem HRun.less {α : Type} {s : Sem α} {K : α → HH → Prop} (h : HRun P base s H (fun v H' => ∃ H2, Ext H2 H' ∧ K v H2)) : HRun P base s H K := fun W hs hb => by
  obtain ⟨v, W', H', hr, ⟨H2, he, hK⟩, hto⟩ := h W hs hb
  exact ⟨v, W', H2, hr, hK, hto.less he⟩
theorem run_ti {t : TypeId} {i : TypeInfo} (h : P.info? t = some i) (W : World) : (typeInfo t).run P W = .ok i W := by
  unfold typeInfo
  simp [h]
theorem run_sz {t : TypeId} {n : Nat} (h : (P.info? t).map (·.size) = some n) (W : World) : (sizeOf t).run P W = .ok n W := by
  obtain ⟨i, hi, rfl⟩ := Option.map_eq_some_iff.1 h
  unfold sizeOf
  simp [run_ti hi]
def scalarB (P : Program) (t : TypeId) : Bool :=
  match P.underlying t with
  | some (.struct _) | some (.array _ _) | none => false
  | _ => true
def aggB (P : Program) (t : TypeId) : Bool :=
  match P.underlying t with
  | some (.struct _) | some (.array _ _) => true
  | _ => false
theorem run_isAgg_f {t : TypeId} (h : scalarB P t = true) (W : World) : (isAgg t).run P W = .ok false W := by
  unfold scalarB at h
  unfold isAgg
  cases hd : P.underlying t with
  | none => rw [hd] at h; cases h
  | some d =>
    rw [hd] at h
    rw [Sem.run_bind, run_under hd]
    cases d <;> simp_all
theorem run_isAgg_t {t : TypeId} (h : aggB P t = true) (W : World) : (isAgg t).run P W = .ok true W := by
  unfold aggB at h
  unfold isAgg
  cases hd : P.underlying t with
  | none => rw [hd] at h; cases h
  | some d =>
    rw [hd] at h
    rw [Sem.run_bind, run_under hd]
    cases d <;> simp_all
theorem q_ld {t : Nat} (ht : scalarB P t = true) {a : Addr} {v : Value} (hc : cellH H a = some v) : QRun P (Instr.loadAt t (.pointer (some a))) H v := fun W hs => by
  simp [Instr.loadAt, Instr.sureAddr, loadVar, run_isAgg_f ht, cellH_sat hs hc]
theorem q_lda {t : Nat} (ht : aggB P t = true) {a : Addr} {cs : List Value} (hz : (P.info? t).map (·.size) = some cs.length) (hc : ∀ j u, cs[j]? = some u → cellH H (a.add j) = some u) : QRun P (Instr.loadAt t (.pointer (some a))) H (.agg cs.toArray) := fun W hs => by
  simp [Instr.loadAt, Instr.sureAddr, loadVar, run_isAgg_t ht, run_sz hz, run_loadCells_list (P := P) W a cs (fun j v hv => cellH_sat hs (hc j v hv))]
theorem h_new {α : Type} {s : Sem α} {f : Nat → α} {o : Obj} {K : α → HH → Prop} (hr : ∀ W : World, s.run P W = .ok (f W.heap.size) (W.alloc o)) (h : ∀ b, H b = none → base ≤ b → K (f b) (upd H b o)) : HRun P base s H K := fun W hs hb => by
  have hn : H W.heap.size = none := by
    cases hh : H W.heap.size with
    | none => rfl
    | some x => have := hs _ _ hh; simp at this
  refine ⟨_, _, _, hr W, h W.heap.size hn hb, ⟨rfl, rfl, rfl, by simp, fun k hk _ => alloc_old W o k hk, fun b x hx => ?_, fun k hk h => ?_⟩⟩
  · by_cases e : b = W.heap.size
    · subst e; rw [upd_self] at hx; cases hx; exact heap_alloc_new W o
    · rw [upd_ne o e] at hx
      have := hs _ _ hx
      rw [alloc_old W o b (Array.getElem?_eq_some_iff.1 this).1]
      exact this
  · rw [upd_ne o (by omega)]; exact h
theorem h_box {t : Nat} {v : Value} {K : Value → HH → Prop} (h : ∀ b, H b = none → base ≤ b → K (.pointer (some ⟨b, 0, none⟩)) (upd H b (.cells v.cells t))) : HRun P base (Instr.box t v) H K :=
  h_new (o := .cells v.cells t) (f := fun b => .pointer (some ⟨b, 0, none⟩)) (fun W => by simp [Instr.box, newVar, newRow]) h
theorem h_alloc {t : Nat} {z : Value} {old : Value} {K : Value → HH → Prop} (hz : (P.info? t).bind (·.zero) = some z) (h : ∀ b, H b = none → base ≤ b → K (.pointer (some ⟨b, 0, none⟩)) (upd H b (.cells z.cells t))) : HRun P base (Instr.alloc t true old) H K :=
  h_new (o := .cells z.cells t) (f := fun b => .pointer (some ⟨b, 0, none⟩)) (fun W => by
    obtain ⟨i, hi, hz'⟩ := Option.bind_eq_some_iff.1 hz
    simp [Instr.alloc, newVar, newRow, zeroValue, run_ti hi, hz']) h
theorem h_make {t e sz by_ : Nat} {z : Value} (ht : P.underlying t = some (.slice e)) (hi : (P.info? e).map (fun i => (i.zero, i.size, i.bytes)) = some (some z, sz, by_)) {k1 k2 : IntKind} {n : Int} {K : Value → HH → Prop} (h0 : 0 ≤ n) (hb : (by_ : Int) * n ≤ 281474976710656) (hm : n ≤ 9223372036854775807)
    (h : ∀ b, H b = none → base ≤ b → K (.slice (some ⟨b, 0, none⟩) n.toNat n.toNat) (upd H b (.cells (madeCells z.cells (n.toNat * sz)) e))) : HRun P base (Instr.makeSlice t (.int k1 n) (.int k2 n)) H K := by
  obtain ⟨i, hi', hzz⟩ := Option.map_eq_some_iff.1 hi
  simp only [Prod.mk.injEq] at hzz
  obtain ⟨e1, e2, e3⟩ := hzz
  subst e2
  exact h_new (o := .cells (madeCells z.cells (n.toNat * i.size)) e) (f := fun b => .slice (some ⟨b, 0, none⟩) n.toNat n.toNat) (fun W => run_make W t e i z ht hi' e1 k1 k2 n n h0 (Int.le_refl _) (by rw [e3]; exact hb) hm) h
theorem h_do {α : Type} {s : Sem α} {K : α → HH → Prop} {b T : Nat} {cs cs' : Array Value} {v : α} (hb : H b = some (.cells cs T (0, 0))) (hbase : base ≤ b) (hsz : cs'.size = cs.size)
    (hr : ∀ W : World, Sat H W → ∃ W', s.run P W = .ok v W' ∧ W'.os = W.os ∧ W'.tape = W.tape ∧ W'.output = W.output ∧ W'.heap.size = W.heap.size ∧ (∀ k, k ≠ b → W'.heap[k]? = W.heap[k]?) ∧ W'.heap[b]? = some (.cells cs' T (0, 0)))
    (h : K v (upd H b (.cells cs' T (0, 0)))) : HRun P base s H K := fun W hs hb' => by
  obtain ⟨W', h1, h2, h3, h4, h5, h6, h7⟩ := hr W hs
  refine ⟨v, W', _, h1, h, ⟨h2, h3, h4, by omega, fun k hk hn => h6 k (fun e => ?_), fun k o hk => ?_, fun k hk hn => ?_⟩⟩
  · subst e
    rcases hn with hn | hn
    · omega
    · rw [hb] at hn; cases hn
  · by_cases e : k = b
    · subst e; rw [upd_self] at hk; cases hk; exact h7
    · rw [upd_ne _ e] at hk; rw [h6 k e]; exact hs k o hk
  · rw [upd_ne _ (fun e => by subst e; rw [hb] at hn; cases hn)]; exact hn
theorem h_st {t b i T : Nat} {cs : Array Value} {v : Value} {K : Unit → HH → Prop} (hz : (P.info? t).map (·.size) = some 1) (h1 : v.oneCell' = true) (hb : H b = some (.cells cs T (0, 0))) (hbase : base ≤ b) (hi : i < cs.size)
    (h : K () (upd H b (.cells (cs.setIfInBounds i v) T (0, 0)))) : HRun P base (Instr.storeAt t (.pointer (some ⟨b, i, none⟩)) v) H K := by
  refine h_do (cs' := cs.setIfInBounds i v) hb hbase (by simp) (fun W hs => ?_) h
  have hw := hs b _ hb
  have hc : W.cell? ⟨b, i, none⟩ = some cs[i] := by simp [World.cell?, hw, hi]
  have hf : W.frozen? ⟨b, i, none⟩ = false := by simp [World.frozen?, hw]
  have hv : v.cells = #[v] := by cases v <;> first | rfl | (simp [Value.oneCell'] at h1)
  refine ⟨W.setCell ⟨b, i, none⟩ v, ?_, rfl, rfl, rfl, by simp [World.setCell], fun k hk => ?_, ?_⟩
  · simp [Instr.storeAt, Instr.sureAddr, storeVar, hv, run_sz hz, storeCells, run_store P W ⟨b, i, none⟩ v .plain h1, hc, hf, Addr.add]
  · simp only [World.setCell, Array.getElem?_modify]; rw [if_neg (by exact fun e => hk e.symm)]
  · simp only [World.setCell, Array.getElem?_modify, if_true, hw, Option.map_some]; rfl
end
end Go.Proofs.Ytbogcgkeabkliac.HL
end
section
set_option linter.unusedSimpArgs false
set_option linter.unusedVariables false
namespace Go.Proofs.Ytbogcgkeabkliac.HL
open Go
/-- From ad on the cells xs lie. -/
def Rd (H : HH) (A : Option Addr) (xs : List Value) : Prop := xs = [] ∨ ∃ ad, A = some ad ∧ ∀ i u, xs[i]? = some u → cellH H (ad.add i) = some u
theorem Rd.ext {H H' : HH} {A : Option Addr} {xs : List Value} (h : Rd H A xs) (he : Ext H H') : Rd H' A xs := h.imp id (fun ⟨ad, e, hc⟩ => ⟨ad, e, fun i u hu => cellH_ext he (hc i u hu)⟩)
theorem Rd.nil (H : HH) (A : Option Addr) : Rd H A [] := .inl rfl
theorem Rd.get {H : HH} {A : Option Addr} {xs : List Value} (h : Rd H A xs) {i : Nat} {u : Value} (hu : xs[i]? = some u) : ∃ ad, A = some ad ∧ cellH H (ad.add i) = some u := by
  rcases h with rfl | ⟨ad, e, hc⟩
  · simp at hu
  · exact ⟨ad, e, hc i u hu⟩
/-- A row of n elements (type T, sz cells each) in a block of the call's own, from its head on; or nil. -/
def Own (base : Nat) (H : HH) (T sz : Nat) (v : Value) (n : Nat) (xs : List Value) : Prop :=
  xs.length = n * sz ∧ ((v = .slice none 0 0 ∧ n = 0) ∨
    ∃ g cap cur, v = .slice (some ⟨g, 0, none⟩) n cap ∧ base ≤ g ∧ H g = some (.cells cur T (0, 0)) ∧ n ≤ cap ∧ cap ≤ maxLen ∧ cur.size = cap * sz ∧ cur.toList.take (n * sz) = xs)
section
variable {base : Nat} {H H' : HH} {T sz n : Nat} {v : Value} {xs : List Value}
theorem Own.nil (base : Nat) (H : HH) (T sz : Nat) : Own base H T sz (.slice none 0 0) 0 [] := ⟨by simp, .inl ⟨rfl, rfl⟩⟩
theorem Own.move (h : Own base H T sz v n xs) (hm : ∀ g o, v.ownBlock = some g → H g = some o → H' g = some o) : Own base H' T sz v n xs := by
  obtain ⟨h1, h2⟩ := h
  refine ⟨h1, h2.imp id ?_⟩
  rintro ⟨g, cap, cur, rfl, hb, hg, r⟩
  exact ⟨g, cap, cur, rfl, hb, hm g _ rfl hg, r⟩
theorem Own.ext (h : Own base H T sz v n xs) (he : Ext H H') : Own base H' T sz v n xs := h.move (fun g o _ hg => he g o hg)
theorem Own.known (h : Own base H T sz v n xs) {g : Nat} (hg : v.ownBlock = some g) : base ≤ g ∧ ∃ cur, H g = some (.cells cur T (0, 0)) := by
  rcases h.2 with ⟨rfl, _⟩ | ⟨g', cap, cur, rfl, hb, hh, _⟩
  · simp [Value.ownBlock] at hg
  · have : g' = g := by simpa [Value.ownBlock] using hg
    subst this
    exact ⟨hb, cur, hh⟩
theorem Own.sat (h : Own base H T sz v n xs) {W : World} (hs : Sat H W) : W.ownsRow base T sz v n xs := by
  obtain ⟨h1, h2⟩ := h
  refine ⟨h1, h2.imp id ?_⟩
  rintro ⟨g, cap, cur, rfl, hb, hg, r⟩
  exact ⟨g, cap, cur, rfl, hb, hs _ _ hg, r⟩
theorem Own.slice (h : Own base H T sz v n xs) : ∃ A c, v = .slice A n c ∧ n ≤ c ∧ Rd H A xs := by
  obtain ⟨h1, h2⟩ := h
  rcases h2 with ⟨rfl, rfl⟩ | ⟨g, cap, cur, rfl, hb, hg, hc, _, _, ht⟩
  · exact ⟨_, _, rfl, Nat.le_refl _, .inl (List.eq_nil_of_length_eq_zero (by rw [h1, Nat.zero_mul]))⟩
  · refine ⟨_, _, rfl, hc, .inr ⟨_, rfl, fun i u hu => ?_⟩⟩
    have hadd : (⟨g, 0, none⟩ : Addr).add i = ⟨g, i, none⟩ := by unfold Addr.add; split <;> simp_all
    rw [hadd, cellH_blk hg]
    rw [← ht, List.getElem?_take] at hu
    split at hu
    · simpa using hu
    · cases hu
/-- The block, where there is one. -/
theorem Own.form (h : Own base H T sz v n xs) (hn : 0 < n) : ∃ g cap cur, v = .slice (some ⟨g, 0, none⟩) n cap ∧ base ≤ g ∧ H g = some (.cells cur T (0, 0)) ∧ n ≤ cap ∧ cur.size = cap * sz ∧ (∀ (i : Nat) (u : Value), xs[i]? = some u → cur[i]? = some u) := by
  obtain ⟨h1, h2⟩ := h
  rcases h2 with ⟨rfl, rfl⟩ | ⟨g, cap, cur, rfl, hb, hg, hc, _, hz, ht⟩
  · omega
  · refine ⟨g, cap, cur, rfl, hb, hg, hc, hz, fun i u hu => ?_⟩
    rw [← ht, List.getElem?_take] at hu
    split at hu
    · simpa using hu
    · cases hu
/-- A store into the block. -/
theorem Own.put (h : Own base H T sz v n xs) {g : Nat} (hg : v.ownBlock = some g) {cur : Array Value} (hc : H g = some (.cells cur T (0, 0))) (i : Nat) (u : Value) : Own base (upd H g (.cells (cur.setIfInBounds i u) T (0, 0))) T sz v n (xs.set i u) := by
  obtain ⟨h1, h2⟩ := h
  refine ⟨by rw [List.length_set]; exact h1, h2.imp id ?_⟩
  rintro ⟨g', cap, cur', rfl, hb, hg', r1, r2, r3, r4⟩
  have : g' = g := by simpa [Value.ownBlock] using hg
  subst this
  rw [hc] at hg'
  cases hg'
  exact ⟨g', cap, _, rfl, hb, upd_self _ _ _, r1, r2, by simpa using r3, by rw [Array.toList_setIfInBounds, ← r4, List.take_set]⟩
theorem Own.far (h : Own base H T sz v n xs) {g : Nat} (hg : v.ownBlock ≠ some g) (o : Obj) : Own base (upd H g o) T sz v n xs := h.move (fun k x hk hx => by rw [upd_ne _ (fun e => hg (by rw [hk, e]))]; exact hx)
theorem Own.lit {b : Nat} (hb : base ≤ b) (cs : Array Value) (n : Nat) (hm : n ≤ maxLen) (hs : cs.size = n * sz) : Own base (upd H b (.cells cs T (0, 0))) T sz (.slice (some ⟨b, 0, none⟩) n n) n cs.toList :=
  ⟨by simpa using hs, .inr ⟨b, n, cs, rfl, hb, upd_self _ _ _, Nat.le_refl _, hm, hs, List.take_of_length_le (by rw [Array.length_toList, hs]; exact Nat.le_refl _)⟩⟩
theorem Own.take {g c : Nat} (h : Own base H T sz (.slice (some ⟨g, 0, none⟩) n c) n xs) {m : Nat} (hm : m ≤ n) : Own base H T sz (.slice (some ⟨g, 0, none⟩) m c) m (xs.take (m * sz)) := by
  obtain ⟨h1, h2⟩ := h
  rcases h2 with ⟨h2, _⟩ | ⟨g', cap, cur, e, hb, hg, r1, r2, r3, r4⟩
  · cases h2
  · cases e
    refine ⟨?_, .inr ⟨g, c, cur, rfl, hb, hg, by omega, r2, r3, ?_⟩⟩
    · rw [List.length_take, h1]; exact Nat.min_eq_left (Nat.mul_le_mul_right _ hm)
    · rw [← r4, List.take_take, Nat.min_eq_left (Nat.mul_le_mul_right _ hm)]
end
/-- What is known but for the block of v; and of v' (v's block, or a new one). -/
structure Grows (H H' : HH) (v v' : Value) : Prop where
  keep : ∀ b o, v.ownBlock ≠ some b → H b = some o → H' b = some o
  at_ : v'.ownBlock = v.ownBlock ∨ ∀ b, v'.ownBlock = some b → H b = none
section
variable {P : Program} {base : Nat} {H : HH} {K : Value → HH → Prop}
theorem h_app {t e sz by_ ty : Nat} {z : Value} (ht : P.underlying t = some (.slice e)) (hi : (P.info? e).map (fun i => (i.zero, i.size, i.bytes)) = some (some z, sz, by_)) (hz : z.cells.size = sz) (hsz : 0 < sz)
    {v : Value} {n m c : Nat} {xs ys : List Value} {A : Option Addr} (ho : Own base H e sz v n xs) (hy : Rd H A ys) (hm : ys.length = m * sz) (h1 : ∀ u ∈ ys, u.oneCell' = true) (hA : A = none → m = 0) (hlim : n + m < 1099511627776) (hby : by_ ≤ 128)
    (h : ∀ A' c' H', Own base H' e sz (.slice A' (n + m) c') (n + m) (xs ++ ys) → Grows H H' v (.slice A' (n + m) c') → K (.slice A' (n + m) c') H') : HRun P base (Builtin.append_ #[t, t] ty #[v, .slice A m c]) H K := fun W hs hb => by
  obtain ⟨i, hi', hzz⟩ := Option.map_eq_some_iff.1 hi
  simp only [Prod.mk.injEq] at hzz
  obtain ⟨e1, e2, e3⟩ := hzz
  have hmem : ∀ j u, ys[j]? = some u → ∀ ad, A = some ad → W.cell? (ad.add j) = some u := fun j u hu ad e => by
    obtain ⟨ad', e', hc⟩ := hy.get hu
    rw [e] at e'; cases e'
    exact cellH_sat hs hc
  have fin : ∀ v' W', (Builtin.append_ #[t, t] ty #[v, .slice A m c]).run P W = .ok v' W' → W'.ownsRow base e sz v' (n + m) (xs ++ ys) → W.grownBy W' v.ownBlock → (v'.ownBlock = v.ownBlock ∨ v'.ownBlock = some W.heap.size) →
      ∃ r_ W2 H2, (Builtin.append_ #[t, t] ty #[v, .slice A m c]).run P W = .ok r_ W2 ∧ K r_ H2 ∧ To base H W H2 W2 := fun v' W' hr hown hg hat => by
    obtain ⟨H', hH⟩ : ∃ H' : HH, H' = fun b => if v'.ownBlock = some b then W'.heap[b]? else if v.ownBlock = some b then none else H b := ⟨_, rfl⟩
    have hnew : H W.heap.size = none := by
      cases hh : H W.heap.size with
      | none => rfl
      | some x => have := hs _ _ hh; simp at this
    have hO : Own base H' e sz v' (n + m) (xs ++ ys) := by
      obtain ⟨h1, h2⟩ := hown
      refine ⟨h1, h2.imp id ?_⟩
      rintro ⟨g, cap, cur, rfl, hb, hg, r⟩
      exact ⟨g, cap, cur, rfl, hb, by rw [hH]; simp [Value.ownBlock, hg], r⟩
    obtain ⟨A', c', rfl, _⟩ := hO.slice
    have hat' : (Value.slice A' (n + m) c').ownBlock = v.ownBlock ∨ ∀ b, (Value.slice A' (n + m) c').ownBlock = some b → H b = none := hat.imp id (fun e b hb => by rw [e] at hb; cases hb; exact hnew)
    refine ⟨_, W', H', hr, h A' c' H' hO ⟨fun b o hb ho' => ?_, hat'⟩, ⟨hg.os, hg.tape, hg.output, hg.size, fun k hk hn => ?_, fun b o hb => ?_, fun k hk hn => ?_⟩⟩
    · rw [hH]
      dsimp only
      rw [if_neg (fun e => ?_), if_neg hb]
      · exact ho'
      · rcases hat' with h2 | h2
        · exact hb (h2.symm.trans e)
        · rw [h2 b e] at ho'; cases ho'
    · refine hg.block k hk (fun e => ?_)
      obtain ⟨h2, cur, h3⟩ := ho.known e.symm
      rcases hn with hn | hn
      · omega
      · rw [h3] at hn; cases hn
    · rw [hH] at hb
      dsimp only at hb
      split at hb
      · exact hb
      · split at hb
        · cases hb
        · rename_i h2 h3
          have := hs _ _ hb
          rw [hg.block b (Array.getElem?_eq_some_iff.1 this).1 (fun e => h3 e.symm)]
          exact this
    · rw [hH]
      dsimp only
      rw [if_neg (fun e => ?_)]
      · split
        · rfl
        · exact hn
      · rcases hat with h2 | h2
        · rw [h2] at e
          obtain ⟨_, cur, h3⟩ := ho.known e
          rw [h3] at hn; cases hn
        · rw [h2] at e; cases e; omega
  cases A with
  | none =>
    have hm0 : m = 0 := hA rfl
    subst hm0
    have hy0 : ys = [] := List.eq_nil_of_length_eq_zero (by rw [hm, Nat.zero_mul])
    subst hy0
    rcases (ho.sat hs).2 with ⟨hv, hn⟩ | ⟨g, cap, cur, hv, _, hg2, hnc, _⟩
    · have hr : (Builtin.append_ #[t, t] ty #[v, .slice none 0 c]).run P W = .ok v W := by
        subst hv; subst hn
        simp [Builtin.append_, run_under ht, sizeOf, typeInfo, hi', Builtin.lenOf, Builtin.firstCells]
      exact fin v W hr (by simpa using ho.sat hs) ⟨rfl, rfl, rfl, Nat.le_refl _, fun _ _ _ => rfl⟩ (.inl rfl)
    · have hr : (Builtin.append_ #[t, t] ty #[v, .slice none 0 c]).run P W = .ok v W := by
        subst hv
        simp [Builtin.append_, run_under ht, sizeOf, typeInfo, hi', Builtin.lenOf, Builtin.firstCells, hnc, storeCells]
      exact fin v W hr (by simpa using ho.sat hs) ⟨rfl, rfl, rfl, Nat.le_refl _, fun _ _ _ => rfl⟩ (.inl rfl)
  | some ad =>
    obtain ⟨v', W', hr, hown, hg, _, hat⟩ := run_append_own_at (P := P) W base t ty e i z sz by_ ht hi' e1 e2 e3 hz hsz v n xs (ho.sat hs) ad m c ys hm (fun j u hu => hmem j u hu ad rfl) h1 (by unfold maxLen; omega)
      (by calc (n + m) * by_ ≤ 1099511627776 * 128 := Nat.mul_le_mul (by omega) hby
          _ ≤ 140737488355328 := by omega) hb
    exact fin v' W' hr hown hg hat
theorem h_lit {t e sz n : Nat} {parts : Array (Nat × Value)} {z : Value} {cs : Array Value} (ht : P.underlying t = some (.slice e)) (hi : (P.info? e).map (fun i => (i.zero, i.size)) = some (some z, sz)) (hl : n * sz ≤ 16777216)
    (hf : Instr.fill (fun i => some (i * sz, sz)) (madeCells z.cells (n * sz)) parts.toList = some cs) (hn : 0 < n * sz)
    (h : ∀ b, H b = none → base ≤ b → K (.slice (some ⟨b, 0, none⟩) n n) (upd H b (.cells cs e))) : HRun P base (Instr.buildSlice t n parts) H K := by
  obtain ⟨i, hi', hzz⟩ := Option.map_eq_some_iff.1 hi
  simp only [Prod.mk.injEq] at hzz
  obtain ⟨e1, e2⟩ := hzz
  refine h_new (o := .cells cs e) (f := fun b => .slice (some ⟨b, 0, none⟩) n n) (fun W => ?_) h
  unfold madeCells at hf
  simp [Instr.buildSlice, run_under ht, sizeOf, zeroValue, run_ti hi', e1, e2, show ¬ (16777216 < n * sz) by omega, show ¬ (n * sz = 0) by omega, hf, newRow]
end
end Go.Proofs.Ytbogcgkeabkliac.HL
end

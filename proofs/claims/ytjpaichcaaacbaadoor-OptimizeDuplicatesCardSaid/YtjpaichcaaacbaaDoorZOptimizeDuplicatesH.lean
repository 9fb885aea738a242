/- Part H of: The statement OptimizeDuplicates: the law answers true whatever its arguments; no condition. -/
import Derived.Test.YtjpaichcaaacbaaDoorZOptimizeDuplicatesG
import Derived.Laws.Slices
import Derived.WalkSpells
section
set_option linter.unusedVariables false
set_option linter.unusedSimpArgs false
set_option linter.unusedSectionVars false
namespace Go.Proofs.YtjpaichcaaacbaaDoor.HL
open Go Go.Proofs.YtjpaichcaaacbaaDoorNum Go.Proofs.YtjpaichcaaacbaaDoor.FEv
section
variable {P : Program} {base : Nat} {H : HH}
theorem h_lit0 {t e sz : Nat} {K : Value → HH → Prop} (ht : P.underlying t = some (.slice e)) (hi : (P.info? e).map (·.size) = some sz)
    (h : ∀ b, H b = none → base ≤ b → K (.slice (some ⟨b, 0, none⟩) 0 0) (upd H b (.cells #[] e))) : HRun P base (Instr.buildSlice t 0 #[]) H K :=
  h_new (o := .cells #[] e) (f := fun b => .slice (some ⟨b, 0, none⟩) 0 0) (fun W => by
    simp [Instr.buildSlice, run_under ht, run_sz hi, Instr.fill, newRow, show Array.range 0 = #[] from by decide]) h
end
section
variable {base : Nat} {H : HH} {K : Value → HH → Prop} {A : Option Addr} {n c : Nat}
/-- A new row with the same cells; all that was known still is, and the new block was not. -/
def Fresh (H : HH) (v : Value) : Prop := ∀ b, v.ownBlock = some b → H b = none
end
end Go.Proofs.YtjpaichcaaacbaaDoor.HL
end
section
set_option linter.unusedVariables false
set_option linter.unusedSimpArgs false
set_option linter.unusedSectionVars false
namespace Go.Proofs.YtjpaichcaaacbaaDoor.HL
open Go Go.Proofs.YtjpaichcaaacbaaDoorNum Go.Proofs.YtjpaichcaaacbaaDoor.FEv
def fldInfo (P : Program) (s f : Nat) : Option (Nat × Nat) := match P.underlying s with
  | some (.struct fs) => fs[f]?.bind fun fd => (P.info? fd.type).map fun i => (fd.offset, i.size)
  | _ => none
theorem aq_fld {P : Program} {s f off sz : Nat} (h : fldInfo P s f = some (off, sz)) (hn : sz ≠ 0) (a : Addr) : AQ P (Instr.fieldAt s (.pointer (some a)) f) (.pointer (some (a.add off))) := fun W => by
  unfold fldInfo at h
  cases hd : P.underlying s with
  | none => rw [hd] at h; cases h
  | some d =>
    rw [hd] at h
    cases d with
    | struct fs =>
      obtain ⟨fd, h1, h2⟩ := Option.bind_eq_some_iff.1 h
      obtain ⟨i, h3, h4⟩ := Option.map_eq_some_iff.1 h2
      simp only [Prod.mk.injEq] at h4
      obtain ⟨rfl, rfl⟩ := h4
      simp [Instr.fieldAt, run_under hd, h1, Instr.sureAddr, fieldPlace, run_sz (n := i.size) (by rw [h3]; rfl), hn]
    | _ => cases h
theorem Own.tag {base T sz n T' : Nat} {H : HH} {v : Value} {xs : List Value} (h : Own base H T sz v n xs) {g : Nat} {cur : Array Value} (hg : H g = some (.cells cur T' (0, 0))) (ht : T ≠ T') : v.ownBlock ≠ some g := fun e => by
  obtain ⟨_, cur', hc⟩ := h.known e
  rw [hc] at hg
  cases hg
  exact ht rfl
/-- Rows of words, each in a block of its own, the rows' row too; nothing of it was known in H0. -/
structure Rows (base : Nat) (H0 H : HH) (A : Option Addr) (n c : Nat) (rs : List Value) (w : List (List Int)) : Prop where
  ext : Ext H0 H
  own : Own base H 30 1 (.slice A n c) n rs
  fo : Fresh H0 (.slice A n c)
  len : w.length = n
  rows : ∀ (i : Nat) (l : List Int), w[i]? = some l → ∃ A' c', rs[i]? = some (.slice A' l.length c') ∧ Own base H 22 1 (.slice A' l.length c') l.length (us l) ∧ Fresh H0 (.slice A' l.length c')
  dist : ∀ (i j : Nat) (v v' : Value), rs[i]? = some v → rs[j]? = some v' → i ≠ j → ∀ b, v.ownBlock = some b → v'.ownBlock ≠ some b
section
variable {base : Nat} {H0 H : HH} {A : Option Addr} {n c : Nat} {rs : List Value} {w : List (List Int)}
/-- Another block of another type turns. -/
theorem Rows.far (h : Rows base H0 H A n c rs w) {g : Nat} (hn : H0 g = none) {cur : Array Value} {T : Nat} (hg : H g = some (.cells cur T (0, 0))) (h1 : 30 ≠ T) (h2 : 22 ≠ T) (o : Obj) : Rows base H0 (upd H g o) A n c rs w where
  ext := fun b x hx => by rw [upd_ne _ (fun e => by rw [e, hn] at hx; cases hx)]; exact h.ext b x hx
  own := h.own.far (h.own.tag hg h1) o
  fo := h.fo
  len := h.len
  rows := fun i l hl => by
    obtain ⟨A1, c1, h6, h7, h8⟩ := h.rows i l hl
    exact ⟨A1, c1, h6, h7.far (h7.tag hg h2) o, h8⟩
  dist := h.dist
theorem Rows.move (h : Rows base H0 H A n c rs w) {H' : HH} (he : Ext H H') : Rows base H0 H' A n c rs w where
  ext := h.ext.trans he
  own := h.own.ext he
  fo := h.fo
  len := h.len
  rows := fun i l hl => by
    obtain ⟨A1, c1, h6, h7, h8⟩ := h.rows i l hl
    exact ⟨A1, c1, h6, h7.ext he, h8⟩
  dist := h.dist
/-- Only a block of another type has turned. -/
theorem Rows.keep (h : Rows base H0 H A n c rs w) {H' : HH} {T : Nat} (h1 : 30 ≠ T) (h2 : 22 ≠ T) {v v' : Value} (hf : Fresh H0 v) (ho : ∀ b, v.ownBlock = some b → ∃ cur, H b = some (.cells cur T (0, 0))) (hg : Grows H H' v v') : Rows base H0 H' A n c rs w where
  ext := fun b x hx => hg.keep b x (fun e => by rw [hf b e] at hx; cases hx) (h.ext b x hx)
  own := h.own.move (fun g o hb hx => hg.keep g o (fun e => by obtain ⟨cur, hc⟩ := ho g e; exact h.own.tag hc h1 hb) hx)
  fo := h.fo
  len := h.len
  rows := fun i l hl => by
    obtain ⟨A1, c1, h6, h7, h8⟩ := h.rows i l hl
    exact ⟨A1, c1, h6, h7.move (fun g o hb hx => hg.keep g o (fun e => by obtain ⟨cur, hc⟩ := ho g e; exact h7.tag hc h2 hb) hx), h8⟩
  dist := h.dist
/-- A row, and its block. -/
theorem Rows.at (h : Rows base H0 H A n c rs w) {i : Nat} (hi : i < n) : ∃ g, A = some ⟨g, 0, none⟩ ∧ AQ Tryd.prog (Instr.indexAt 27 (.slice A n c) (.int .i64 i)) (.pointer (some ⟨g, i, none⟩)) ∧ ∃ A' c', rs[i]? = some (.slice A' (w.getD i []).length c') ∧ QRun Tryd.prog (Instr.loadAt 30 (.pointer (some ⟨g, i, none⟩))) H (.slice A' (w.getD i []).length c') ∧ Own base H 22 1 (.slice A' (w.getD i []).length c') (w.getD i []).length (us (w.getD i [])) := by
  obtain ⟨g, cur, rfl, h2, h3, h4, h5⟩ := h.own.at hi
  have hw : w[i]? = some (w.getD i []) := by simp [show i < w.length by rw [h.len]; exact hi]
  obtain ⟨A1, c1, h6, h7, h8⟩ := h.rows i _ hw
  exact ⟨g, rfl, aq_own un23 info32 hi, A1, c1, h6, q_ld sc32 (by rw [cellH_blk h3]; exact h5 _ _ h6), h7⟩
/-- A word of a row turns. -/
theorem Rows.set (h : Rows base H0 H A n c rs w) {i : Nat} {A' : Option Addr} {k c' : Nat} (hr : rs[i]? = some (.slice A' k c')) {g : Nat} (hA : A' = some ⟨g, 0, none⟩) {cur : Array Value} (hg : H g = some (.cells cur 22 (0, 0))) (x : Nat) (y : Int) :
    Rows base H0 (upd H g (.cells (cur.setIfInBounds x (.int .u64 y)) 22 (0, 0))) A n c rs (w.set i ((w.getD i []).set x y)) := by
  subst hA
  have hi : i < w.length := by
    have h1 := (List.getElem?_eq_some_iff.1 hr).1
    have h2 := h.own.1
    rw [h.len]; omega
  have hw : w[i]? = some (w.getD i []) := by simp [hi]
  obtain ⟨A1, c1, h6, h7, h8⟩ := h.rows i _ hw
  rw [hr] at h6
  cases h6
  have hb : ∀ {k' c'' : Nat}, (Value.slice (some ⟨g, 0, none⟩) k' c'').ownBlock = some g := by intros; simp [Value.ownBlock]
  refine ⟨fun b o hx => ?_, h.own.far (h.own.tag hg (by decide)) _, h.fo, by rw [List.length_set]; exact h.len, fun j l hl => ?_, h.dist⟩
  · rw [upd_ne _ (fun e => by rw [e, h8 g hb] at hx; cases hx)]; exact h.ext b o hx
  · rw [List.getElem?_set] at hl
    by_cases e : i = j
    · subst e
      rw [if_pos rfl, if_pos hi] at hl
      cases hl
      refine ⟨_, c', by rw [List.length_set]; exact hr, ?_, by rw [List.length_set]; exact h8⟩
      have := h7.put hb hg x (.int .u64 y)
      rw [us_set] at this
      rwa [List.length_set]
    · rw [if_neg e] at hl
      obtain ⟨A2, c2, h9, h10, h11⟩ := h.rows j l hl
      exact ⟨A2, c2, h9, h10.far (fun e' => h.dist i j _ _ hr h9 e g hb e') _, h11⟩
end
end Go.Proofs.YtjpaichcaaacbaaDoor.HL
end
namespace Go.Proofs.YtjpaichcaaacbaaDoor.HL
end Go.Proofs.YtjpaichcaaacbaaDoor.HL
section
set_option linter.unusedVariables false
set_option linter.unusedSimpArgs false
set_option linter.unusedSectionVars false
namespace Go.Proofs.YtjpaichcaaacbaaDoor.HL
open Go Go.Proofs.YtjpaichcaaacbaaDoorNum Go.Proofs.YtjpaichcaaacbaaDoor.FEv
def ns (l : List Nat) : List Value := l.map fun (k : Nat) => Value.int .i64 ((k : Nat) : Int)
section
end
end Go.Proofs.YtjpaichcaaacbaaDoor.HL
end
section
set_option linter.unusedVariables false
set_option linter.unusedSimpArgs false
set_option linter.unusedSectionVars false
namespace Go.Proofs.YtjpaichcaaacbaaDoor.HL
open Go Go.Proofs.YtjpaichcaaacbaaDoorNum Go.Proofs.YtjpaichcaaacbaaDoor.FEv
section
variable {base : Nat} {H0 H : HH} {A : Option Addr} {n c : Nat} {rs : List Value} {w : List (List Int)}
theorem set_two {α : Type} {l : List α} {i r : Nat} {a b : α} (hi : l[i]? = some a) (hr : l[r]? = some b) (k : Nat) : ((l.set i b).set r a)[k]? = if k = r then some a else if k = i then some b else l[k]? := by
  have h1 := (List.getElem?_eq_some_iff.1 hi).1
  have h2 := (List.getElem?_eq_some_iff.1 hr).1
  rw [List.getElem?_set, List.length_set, List.getElem?_set]
  by_cases e : k = r
  · subst e; simp [h2]
  · rw [if_neg (fun e' => e e'.symm), if_neg e]
    by_cases e2 : k = i
    · subst e2; simp [h1]
    · rw [if_neg (fun e' => e2 e'.symm), if_neg e2]
/-- Rows i and r change places: two stores in the rows' row. -/
theorem Rows.swap (h : Rows base H0 H A n c rs w) {i r : Nat} {v v' : Value} {l l' : List Int} (hi : rs[i]? = some v) (hr : rs[r]? = some v') (hl : w[i]? = some l) (hl' : w[r]? = some l') {g : Nat} (hA : A = some ⟨g, 0, none⟩) {cur : Array Value} (hg : H g = some (.cells cur 30 (0, 0))) :
    Rows base H0 (upd (upd H g (.cells (cur.setIfInBounds i v') 30 (0, 0))) g (.cells ((cur.setIfInBounds i v').setIfInBounds r v) 30 (0, 0))) A n c ((rs.set i v').set r v) ((w.set i l').set r l) := by
  subst hA
  have hb : (Value.slice (some ⟨g, 0, none⟩) n c).ownBlock = some g := by simp [Value.ownBlock]
  have hn : H0 g = none := h.fo g hb
  have hr2 := set_two hi hr
  have hw2 := set_two hl hl'
  refine ⟨fun b o hx => ?_, ?_, h.fo, by rw [List.length_set, List.length_set]; exact h.len, fun k x hx => ?_, fun a b x y hx hy hab => ?_⟩
  · have e : b ≠ g := fun e => by rw [e, hn] at hx; cases hx
    rw [upd_ne _ e, upd_ne _ e]; exact h.ext b o hx
  · have h1 := h.own.put hb hg i v'
    exact h1.put hb (upd_self _ _ _) r v
  · have key : ∃ A' c', ((rs.set i v').set r v)[k]? = some (.slice A' x.length c') ∧ Own base H 22 1 (.slice A' x.length c') x.length (us x) ∧ Fresh H0 (.slice A' x.length c') := by
      rw [hw2] at hx
      rw [hr2]
      by_cases e : k = r
      · rw [if_pos e] at hx ⊢
        cases hx
        obtain ⟨A1, c1, h1, h2⟩ := h.rows i l hl
        rw [hi] at h1
        exact ⟨A1, c1, h1, h2⟩
      · rw [if_neg e] at hx ⊢
        by_cases e2 : k = i
        · rw [if_pos e2] at hx ⊢
          cases hx
          obtain ⟨A1, c1, h1, h2⟩ := h.rows r l' hl'
          rw [hr] at h1
          exact ⟨A1, c1, h1, h2⟩
        · rw [if_neg e2] at hx ⊢
          exact h.rows k x hx
    obtain ⟨A1, c1, h1, h2, h3⟩ := key
    exact ⟨A1, c1, h1, (h2.far (h2.tag hg (by decide)) _).far (h2.tag hg (by decide)) _, h3⟩
  · rw [hr2] at hx hy
    have pick : ∀ (k : Nat) (u : Value), (if k = r then some v else if k = i then some v' else rs[k]?) = some u → rs[if k = r then i else if k = i then r else k]? = some u := by
      intro k u hu
      by_cases e : k = r
      · rw [if_pos e] at hu ⊢; rw [hi]; exact hu
      · rw [if_neg e] at hu ⊢
        by_cases e2 : k = i
        · rw [if_pos e2] at hu ⊢; rw [hr]; exact hu
        · rw [if_neg e2] at hu ⊢; exact hu
    refine h.dist _ _ x y (pick a x hx) (pick b y hy) ?_
    repeat' split
    all_goals omega
end
end Go.Proofs.YtjpaichcaaacbaaDoor.HL
end
namespace Go.Proofs.YtjpaichcaaacbaaDoor.HL
end Go.Proofs.YtjpaichcaaacbaaDoor.HL
namespace Go.Proofs.YtjpaichcaaacbaaDoor.HL
end Go.Proofs.YtjpaichcaaacbaaDoor.HL
namespace Go.Proofs.YtjpaichcaaacbaaDoor.HL
end Go.Proofs.YtjpaichcaaacbaaDoor.HL
namespace Go.Proofs.YtjpaichcaaacbaaDoor.HL
end Go.Proofs.YtjpaichcaaacbaaDoor.HL
namespace Go.Proofs.YtjpaichcaaacbaaDoor.HL
end Go.Proofs.YtjpaichcaaacbaaDoor.HL
namespace Go.Proofs.YtjpaichcaaacbaaDoor.HL
end Go.Proofs.YtjpaichcaaacbaaDoor.HL
section
set_option linter.unusedVariables false
set_option linter.unusedSimpArgs false
set_option linter.unusedSectionVars false
set_option maxHeartbeats 1000000
set_option maxRecDepth 10000
namespace Go.Proofs.YtjpaichcaaacbaaDoor.HL
open Go Go.Proofs.YtjpaichcaaacbaaDoorNum Go.Proofs.YtjpaichcaaacbaaDoor.FEv
section
variable {p : Nat} [NeZero p]
structure Rk (base : Nat) (H0 H : HH) (A : Option Addr) (n c : Nat) (rs : List Value) (w : List (List (Fin p))) (Ap : Option Addr) (cp : Nat) (pv : List Nat) : Prop where
  rw_ : Rows base H0 H A n c rs (ms w)
  piv : Own base H 3 1 (.slice Ap pv.length cp) pv.length (ns pv)
  pnew : Fresh H0 (.slice Ap pv.length cp)
variable {base : Nat} {H0 H : HH} {n c : Nat} {A : Option Addr} {rs : List Value} {w : List (List (Fin p))} {Ap : Option Addr} {cp : Nat} {pv : List Nat}
theorem Rk.len (h : Rk base H0 H A n c rs w Ap cp pv) : w.length = n := by have := h.rw_.len; rwa [ms_length] at this
theorem Rk.row (h : Rk base H0 H A n c rs w Ap cp pv) {i : Nat} (hi : i < n) : ∃ g, A = some ⟨g, 0, none⟩ ∧ AQ Tryd.prog (Instr.indexAt 27 (.slice A n c) (.int .i64 i)) (.pointer (some ⟨g, i, none⟩)) ∧ ∃ A' c', rs[i]? = some (.slice A' (rowL w i).length c') ∧ QRun Tryd.prog (Instr.loadAt 30 (.pointer (some ⟨g, i, none⟩))) H (.slice A' (rowL w i).length c') := by
  obtain ⟨g, h1, h2, A', c', h3, h4, h5⟩ := h.rw_.at hi
  rw [ms_get, vs_length] at h3 h4
  exact ⟨g, h1, h2, A', c', h3, h4⟩
theorem Rk.own (h : Rk base H0 H A n c rs w Ap cp pv) {i : Nat} {A' : Option Addr} {k c' : Nat} (hr : rs[i]? = some (.slice A' k c')) : i < n ∧ k = (rowL w i).length ∧ Own base H 22 1 (.slice A' k c') k (us (vs (rowL w i))) := by
  have hi : i < n := by
    have h1 := (List.getElem?_eq_some_iff.1 hr).1
    have h2 := h.rw_.own.1
    omega
  obtain ⟨g, h1, h2, A1, c1, h3, h4, h5⟩ := h.rw_.at hi
  rw [ms_get, vs_length] at h3 h5
  rw [hr] at h3
  cases h3
  exact ⟨hi, rfl, h5⟩
theorem Rk.push (h : Rk base H0 H A n c rs w Ap cp pv) (hl : pv.length ≤ 1000) {k : Nat} {C : Option Addr → Nat → Nat → HH → Prop} (hk : ∀ H' A' c', Rk base H0 H' A n c rs w A' c' (pv ++ [k]) → C A' (pv.length + 1) c' H') {ty : Nat} :
    HRun Tryd.prog base (Instr.buildSlice 24 1 #[(0, .int .i64 ((k : Nat) : Int))]) H fun v1 H1 => ∃ (A1 : Option Addr) (l c1 : Nat), v1 = .slice A1 l c1 ∧ HRun Tryd.prog base (Builtin.append_ #[24, 24] ty #[.slice Ap pv.length cp, .slice A1 l c1]) H1 fun v2 H2 => ∃ (A' : Option Addr) (l' c' : Nat), v2 = .slice A' l' c' ∧ C A' l' c' H2 := by
  refine h_push un57 inf3 rfl (by decide) rfl h.piv (by omega) (fun A3 c3 H3 ho3 g3 => hk H3 A3 c3 ⟨?_, ?_, fun b hb => ?_⟩)
  · exact h.rw_.keep (T := 3) (by decide) (by decide) h.pnew (fun b hb => by obtain ⟨_, cur, hc⟩ := h.piv.known hb; exact ⟨cur, hc⟩) g3
  · simpa [ns] using ho3
  · rcases g3.at_ with e | e
    · refine h.pnew b ?_
      rw [← e]; simpa using hb
    · exact h.rw_.ext.none (e b (by simpa using hb))
theorem Rk.swap (h : Rk base H0 H A n c rs w Ap cp pv) {t r : Nat} (ht : t < n) (hr : r < n) {v v' : Value} (hv : rs[t]? = some v) (hv' : rs[r]? = some v') {g : Nat} (hA : A = some ⟨g, 0, none⟩) : ∃ cur, base ≤ g ∧ H g = some (.cells cur 30 (0, 0)) ∧ t < cur.size ∧ r < cur.size ∧
    Rk base H0 (upd (upd H g (.cells (cur.setIfInBounds t v') 30 (0, 0))) g (.cells ((cur.setIfInBounds t v').setIfInBounds r v) 30 (0, 0))) A n c ((rs.set t v').set r v) (swapL t r w) Ap cp pv := by
  obtain ⟨g1, cur, e1, e2, e3, e4, e5⟩ := h.rw_.own.at ht
  obtain ⟨g2, cur2, f1, f2, f3, f4, f5⟩ := h.rw_.own.at hr
  rw [hA] at e1 f1
  cases e1
  cases f1
  rw [e3] at f3
  cases f3
  have hwn := h.len
  refine ⟨cur, e2, e3, e4, f4, ?_, (h.piv.far (h.piv.tag e3 (by decide)) _).far (h.piv.tag e3 (by decide)) _, h.pnew⟩
  have hm : ∀ k, k < n → (ms w)[k]? = some (vs (rowL w k)) := fun k hk => by
    unfold ms
    rw [List.getElem?_map, List.getElem?_eq_getElem (by omega), rowL_lt (by omega)]; rfl
  have := h.rw_.swap hv hv' (hm t ht) (hm r hr) hA e3
  unfold swapL ms at *
  rw [List.map_set, List.map_set]
  exact this
end
end Go.Proofs.YtjpaichcaaacbaaDoor.HL
end
namespace Go.Proofs.YtjpaichcaaacbaaDoor.HL
end Go.Proofs.YtjpaichcaaacbaaDoor.HL
section
set_option linter.unusedVariables false
set_option linter.unusedSimpArgs false
set_option linter.unusedSectionVars false
set_option maxHeartbeats 1000000
set_option maxRecDepth 10000
namespace Go.Proofs.YtjpaichcaaacbaaDoor.HL
open Go Go.Proofs.YtjpaichcaaacbaaDoorNum Go.Proofs.YtjpaichcaaacbaaDoor.FEv
theorem Rows.nil (base : Nat) (H : HH) : Rows base H H none 0 0 [] [] := ⟨.refl H, Own.nil _ _ _ _, fun b hb => by simp [Value.ownBlock] at hb, rfl, fun i l h => by simp at h, fun i j v v' h => by simp at h⟩
/-- A row of its own is pushed. -/
theorem Rows.push {base : Nat} {H0 H H7 : HH} {A : Option Addr} {n c : Nat} {rs : List Value} {w : List (List Int)} (h : Rows base H0 H A n c rs w) (hn : n ≤ 1000) (he : Ext H H7) {A8 : Option Addr} {c8 k8 : Nat} {row : List Int} (hk8 : k8 = row.length) (ho : Own base H7 22 1 (.slice A8 k8 c8) k8 (us row)) (hf : Fresh H (.slice A8 k8 c8))
    {K : Option Addr → Nat → Nat → HH → Prop} (hk : ∀ A' c' H', Rows base H0 H' A' (n + 1) c' (rs ++ [.slice A8 k8 c8]) (w ++ [row]) → K A' (n + 1) c' H') {ty : Nat} :
    HRun Tryd.prog base (Instr.buildSlice 27 1 #[(0, .slice A8 k8 c8)]) H7 fun v1 H1 => ∃ (A1 : Option Addr) (l1 c1 : Nat), v1 = .slice A1 l1 c1 ∧ HRun Tryd.prog base (Builtin.append_ #[27, 27] ty #[.slice A n c, .slice A1 l1 c1]) H1 fun v2 H2 => ∃ (A' : Option Addr) (l' c' : Nat), v2 = .slice A' l' c' ∧ K A' l' c' H2 := by
  subst hk8
  have hl0 := h.own.1
  have hln := h.len
  refine h_push un23 inf32 rfl (by decide) rfl (h.own.ext he) (by omega) (fun A3 c3 H3 ho3 g3 => hk A3 c3 H3 ?_)
  have off : ∀ {v : Value} {k : Nat} {xs : List Value}, Own base H7 22 1 v k xs → ∀ g o, v.ownBlock = some g → H7 g = some o → H3 g = some o := fun hv g o hg ho => g3.keep g o (fun e => by
    obtain ⟨_, cur, hc⟩ := hv.known hg
    exact (h.own.ext he).tag hc (by decide) e) ho
  have known : ∀ (i : Nat) (v : Value), rs[i]? = some v → ∀ k, v.ownBlock = some k → H k ≠ none := fun i v hv k hk => by
    have hi : i < w.length := by have := (List.getElem?_eq_some_iff.1 hv).1; omega
    obtain ⟨A1, c1, h5, h6, _⟩ := h.rows i _ (List.getElem?_eq_getElem hi)
    rw [hv] at h5
    cases h5
    obtain ⟨_, cur1, h7⟩ := h6.known hk
    rw [h7]; simp
  have new : ∀ (i : Nat) (v : Value), (rs ++ [Value.slice A8 row.length c8])[i]? = some v → (i < rs.length ∧ rs[i]? = some v) ∨ (i = rs.length ∧ v = .slice A8 row.length c8) := fun i v hv => by
    rcases Nat.lt_or_ge i rs.length with hi | hi
    · rw [List.getElem?_append_left hi] at hv; exact .inl ⟨hi, hv⟩
    · have hi' : i = rs.length := by
        have := (List.getElem?_eq_some_iff.1 hv).1
        rw [List.length_append, List.length_singleton] at this
        omega
      subst hi'
      rw [List.getElem?_append_right (Nat.le_refl _)] at hv
      simp at hv
      exact .inr ⟨rfl, hv.symm⟩
  refine ⟨fun b o hb => ?_, ho3, fun b hb => ?_, by simp [hln], fun i l hl => ?_, fun i j v v' hi hj hij b hb hb' => ?_⟩
  · exact g3.keep b o (fun e => by rw [h.fo b e] at hb; cases hb) (he b o (h.ext b o hb))
  · rcases g3.at_ with e | e
    · exact h.fo b (e ▸ hb)
    · exact (h.ext.trans he).none (e b hb)
  · rcases Nat.lt_or_ge i w.length with hi | hi
    · rw [List.getElem?_append_left hi] at hl
      obtain ⟨A4, c4, h6, h7, h8⟩ := h.rows i l hl
      exact ⟨A4, c4, by rw [List.getElem?_append_left (by omega)]; exact h6, (h7.ext he).move (off (h7.ext he)), h8⟩
    · have hi' : i = w.length := by
        have := (List.getElem?_eq_some_iff.1 hl).1
        rw [List.length_append, List.length_singleton] at this
        omega
      subst hi'
      rw [List.getElem?_append_right (Nat.le_refl _)] at hl
      simp at hl
      subst hl
      refine ⟨A8, c8, ?_, ho.move (off ho), fun b hb => h.ext.none (hf b hb)⟩
      rw [show w.length = rs.length by omega, List.getElem?_append_right (Nat.le_refl _)]
      simp
  · rcases new i v hi with ⟨_, h1⟩ | ⟨h1, rfl⟩ <;> rcases new j v' hj with ⟨_, h2⟩ | ⟨h2, rfl⟩
    · exact h.dist i j v v' h1 h2 hij b hb hb'
    · exact known i v h1 b hb (hf b hb')
    · exact known j v' h2 b hb' (hf b hb)
    · omega
section
end
end Go.Proofs.YtjpaichcaaacbaaDoor.HL
end
namespace Go.Proofs.YtjpaichcaaacbaaDoor.HL
end Go.Proofs.YtjpaichcaaacbaaDoor.HL
section
set_option linter.unusedVariables false
set_option linter.unusedSimpArgs false
set_option linter.unusedSectionVars false
namespace Go.Proofs.YtjpaichcaaacbaaDoor.HL
open Go Go.Proofs.YtjpaichcaaacbaaDoorNum Go.Proofs.YtjpaichcaaacbaaDoor.FEv
section
variable {p : Nat} [NeZero p]
def RectM (m : List (List (Fin p))) : Prop := ∀ r ∈ m, r.length = (rowL m 0).length
def colsM (m : List (List (Fin p))) : Nat := (rowL m 0).length
theorem RectM.of {m : List (List (Fin p))} {c : Nat} (h : ∀ i, i < m.length → (rowL m i).length = c) : RectM m := fun r hr => by
  obtain ⟨i, hi, rfl⟩ := List.getElem_of_mem hr
  rw [h 0 (by omega), ← rowL_lt hi, h i hi]
theorem RectM.row {m : List (List (Fin p))} (h : RectM m) {i : Nat} (hi : i < m.length) : (rowL m i).length = colsM m := h _ (by rw [rowL_lt hi]; exact List.getElem_mem hi)
end
end Go.Proofs.YtjpaichcaaacbaaDoor.HL
end
section
set_option linter.unusedVariables false
set_option linter.unusedSimpArgs false
set_option linter.unusedSectionVars false
set_option maxHeartbeats 1000000
namespace Go.Proofs.YtjpaichcaaacbaaDoor.HL
open Go Go.Proofs.YtjpaichcaaacbaaDoorNum Go.Proofs.YtjpaichcaaacbaaDoor.FEv
section
variable {p : Nat} [NeZero p] {base : Nat} {H H0 : HH} {K : Value → HH → Prop} {A A' Ap : Option Addr} {n n' c c' cp xb : Nat} {rs : List Value} {w : List (List (Fin p))} {pv : List Nat} {d : Fin p}
def Piv (H : HH) (Ap : Option Addr) (pv : List Nat) : Prop := Rd H Ap (ns pv)
theorem Piv.at (h : Piv H Ap pv) (cp : Nat) {j : Nat} (hj : j < pv.length) : ∃ a, AQ Tryd.prog (Instr.indexAt 24 (.slice Ap pv.length cp) (.int .i64 j)) (.pointer (some a)) ∧ QRun Tryd.prog (Instr.loadAt 3 (.pointer (some a))) H (.int .i64 ((pv.getD j 0 : Nat) : Int)) := by
  obtain ⟨ad, rfl, hc⟩ := Rd.at h (i := j) (u := .int .i64 ((pv.getD j 0 : Nat) : Int)) (by simp [ns, hj])
  refine ⟨_, aq_ix un57 info3 (by omega) (by omega), q_ld sc3 ?_⟩
  rw [Int.toNat_natCast, Nat.mul_one]; exact hc
end
end Go.Proofs.YtjpaichcaaacbaaDoor.HL
end
namespace Go.Proofs.YtjpaichcaaacbaaDoor.HL
end Go.Proofs.YtjpaichcaaacbaaDoor.HL

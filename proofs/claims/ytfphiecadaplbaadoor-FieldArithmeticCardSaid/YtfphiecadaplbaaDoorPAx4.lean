-- Written by this session's program (wip/mkprint.py, wip/prx.sh) over the seat's translation. Lean checks it.
import Derived.Test.YtfphiecadaplbaaDoorPAx0
import Derived.Test.YtfphiecadaplbaaDoorPAx1
import Derived.Test.YtfphiecadaplbaaDoorPAx2
import Derived.Test.YtfphiecadaplbaaDoorPAx3
namespace Go.Proofs.YtfphiecadaplbaaDoor.PA
open Go.RowKit Go.Proofs.YtfphiecadaplbaaDoorW.PrintWords Go.Proofs.YtfphiecadaplbaaDoorW.PrintLast Go.Proofs.YtfphiecadaplbaaDoorW.PrintMore
attribute [local go_sem] max2_int min2_int max_two min_two max_three min_three max_four min_four   -- for this text's walks alone
set_option linter.unusedVariables false
set_option linter.unusedSimpArgs false

/-! ### privitylaw01_FieldAxioms: function 8 -/
mutual
def privitylaw01_FieldAxioms.j0 : Nat → Int → Int → Int → Int → Bool → Option (Bool)
  | 0, _, _, _, _, _ => none
  | k + 1, x3, x4, x5, x6, x7 => (field_Mul.f k x3 x4 x5).bind fun t237 => ((field_Mul.f k x3 t237 x6).bind fun t238 => ((field_Mul.f k x3 x5 x6).bind fun t239 => ((field_Mul.f k x3 x4 t239).bind fun t240 => (if t238 = t240 then ((field_Mul.f k x3 x4 x5).bind fun t241 => ((field_Mul.f k x3 x5 x4).bind fun t242 => (if t241 = t242 then ((field_Mul.f k x3 x4 1).bind fun t243 => (if t243 = x4 then ((field_Add.f k x3 x5 x6).bind fun t244 => ((field_Mul.f k x3 x4 t244).bind fun t245 => ((field_Mul.f k x3 x4 x5).bind fun t246 => ((field_Mul.f k x3 x4 x6).bind fun t247 => ((field_Add.f k x3 t246 t247).bind fun t248 => (privitylaw01_FieldAxioms.j1 k x3 x4 x7 (t245 == t248))))))) else (privitylaw01_FieldAxioms.j1 k x3 x4 x7 false))) else (privitylaw01_FieldAxioms.j1 k x3 x4 x7 false)))) else (privitylaw01_FieldAxioms.j1 k x3 x4 x7 false)))))
def privitylaw01_FieldAxioms.j1 : Nat → Int → Int → Bool → Bool → Option (Bool)
  | 0, _, _, _, _ => none
  | k + 1, x3, x4, x7, x8 => (field_Inverse.f k x3 x4).bind fun bt249 => (if x4 = 0 then ((privitylaw01_awake.f k).bind fun t251 => (if t251 = true then (if x7 = true then (if x8 = true then (if bt249.2 = 8 then (some (bt249.1 == 0)) else (some false)) else (some false)) else (some false)) else (some false))) else ((privitylaw01_awake.f k).bind fun t252 => (if t252 = true then (if x7 = true then (if x8 = true then (if bt249.2 = 0 then (if bt249.1 < x3 then ((field_Mul.f k x3 x4 bt249.1).bind fun t253 => (some (t253 == 1))) else (some false)) else (some false)) else (some false)) else (some false)) else (some false))))
end
def privitylaw01_FieldAxioms.f (k : Nat) (a0_0 : Int) (a0_1 : Int) (a0_2 : Int) (a0_3 : Int) : Option (Bool) := (privitylaw01_fit.f a0_0 a0_1 a0_2 a0_3).bind fun bt221 => ((field_Add.f k bt221.1 bt221.2.1 bt221.2.2.1).bind fun t225 => ((field_Add.f k bt221.1 t225 bt221.2.2.2).bind fun t226 => ((field_Add.f k bt221.1 bt221.2.2.1 bt221.2.2.2).bind fun t227 => ((field_Add.f k bt221.1 bt221.2.1 t227).bind fun t228 => (if t226 = t228 then ((field_Add.f k bt221.1 bt221.2.1 bt221.2.2.1).bind fun t229 => ((field_Add.f k bt221.1 bt221.2.2.1 bt221.2.1).bind fun t230 => (if t229 = t230 then ((field_Add.f k bt221.1 bt221.2.1 0).bind fun t231 => (if t231 = bt221.2.1 then ((field_Neg.f bt221.1 bt221.2.1).bind fun t232 => ((field_Add.f k bt221.1 bt221.2.1 t232).bind fun t233 => (if t233 = 0 then ((field_Sub.f k bt221.1 bt221.2.1 bt221.2.2.1).bind fun t234 => ((field_Neg.f bt221.1 bt221.2.2.1).bind fun t235 => ((field_Add.f k bt221.1 bt221.2.1 t235).bind fun t236 => (privitylaw01_FieldAxioms.j0 k bt221.1 bt221.2.1 bt221.2.2.1 bt221.2.2.2 (t234 == t236))))) else (privitylaw01_FieldAxioms.j0 k bt221.1 bt221.2.1 bt221.2.2.1 bt221.2.2.2 false)))) else (privitylaw01_FieldAxioms.j0 k bt221.1 bt221.2.1 bt221.2.2.1 bt221.2.2.2 false))) else (privitylaw01_FieldAxioms.j0 k bt221.1 bt221.2.1 bt221.2.2.1 bt221.2.2.2 false)))) else (privitylaw01_FieldAxioms.j0 k bt221.1 bt221.2.1 bt221.2.2.1 bt221.2.2.2 false))))))
theorem privitylaw01_FieldAxioms.mono_l : ∀ k, (∀ y0 y1 y2 y3 y4, LeO (privitylaw01_FieldAxioms.j0 k y0 y1 y2 y3 y4) (privitylaw01_FieldAxioms.j0 (k + 1) y0 y1 y2 y3 y4)) ∧ (∀ y0 y1 y2 y3, LeO (privitylaw01_FieldAxioms.j1 k y0 y1 y2 y3) (privitylaw01_FieldAxioms.j1 (k + 1) y0 y1 y2 y3))
  | 0 => ⟨fun _ _ _ _ _ r h => by simp [privitylaw01_FieldAxioms.j0] at h, fun _ _ _ _ r h => by simp [privitylaw01_FieldAxioms.j1] at h⟩
  | k + 1 => by
    obtain ⟨ih0, ih1⟩ := privitylaw01_FieldAxioms.mono_l k
    refine ⟨?_, ?_⟩
    · intro y0 y1 y2 y3 y4
      unfold privitylaw01_FieldAxioms.j0
      repeat' first
      | (with_reducible exact ih0 _ _ _ _ _)
      | (with_reducible exact ih1 _ _ _ _)
      | (with_reducible exact field_Add.mono _ _ _ _)
      | (with_reducible exact field_Inverse.mono _ _ _)
      | (with_reducible exact field_Mul.mono _ _ _ _)
      | (with_reducible exact field_Sub.mono _ _ _ _)
      | (with_reducible exact privitylaw01_awake.mono _)
      | (with_reducible exact LeO.refl _)
      | (with_reducible exact LeO.none _)
      | (with_reducible refine LeO.ite ?_ ?_)
      | (with_reducible refine LeO.bind ?_ (fun _ => ?_))
      | exact ih0 _ _ _ _ _
      | exact ih1 _ _ _ _
      | exact field_Add.mono _ _ _ _
      | exact field_Inverse.mono _ _ _
      | exact field_Mul.mono _ _ _ _
      | exact field_Sub.mono _ _ _ _
      | exact privitylaw01_awake.mono _
      | exact LeO.none _
      | refine LeO.ite ?_ ?_
      | refine LeO.bind ?_ (fun _ => ?_)
    · intro y0 y1 y2 y3
      unfold privitylaw01_FieldAxioms.j1
      repeat' first
      | (with_reducible exact ih0 _ _ _ _ _)
      | (with_reducible exact ih1 _ _ _ _)
      | (with_reducible exact field_Add.mono _ _ _ _)
      | (with_reducible exact field_Inverse.mono _ _ _)
      | (with_reducible exact field_Mul.mono _ _ _ _)
      | (with_reducible exact field_Sub.mono _ _ _ _)
      | (with_reducible exact privitylaw01_awake.mono _)
      | (with_reducible exact LeO.refl _)
      | (with_reducible exact LeO.none _)
      | (with_reducible refine LeO.ite ?_ ?_)
      | (with_reducible refine LeO.bind ?_ (fun _ => ?_))
      | exact ih0 _ _ _ _ _
      | exact ih1 _ _ _ _
      | exact field_Add.mono _ _ _ _
      | exact field_Inverse.mono _ _ _
      | exact field_Mul.mono _ _ _ _
      | exact field_Sub.mono _ _ _ _
      | exact privitylaw01_awake.mono _
      | exact LeO.none _
      | refine LeO.ite ?_ ?_
      | refine LeO.bind ?_ (fun _ => ?_)
theorem privitylaw01_FieldAxioms.mono : ∀ a0 a1 a2 a3 k, LeO (privitylaw01_FieldAxioms.f k a0 a1 a2 a3) (privitylaw01_FieldAxioms.f (k + 1) a0 a1 a2 a3) := by
  intro a0 a1 a2 a3 k
  obtain ⟨ih0, ih1⟩ := privitylaw01_FieldAxioms.mono_l k
  unfold privitylaw01_FieldAxioms.f
  repeat' first
      | (with_reducible exact ih0 _ _ _ _ _)
      | (with_reducible exact ih1 _ _ _ _)
      | (with_reducible exact field_Add.mono _ _ _ _)
      | (with_reducible exact field_Inverse.mono _ _ _)
      | (with_reducible exact field_Mul.mono _ _ _ _)
      | (with_reducible exact field_Sub.mono _ _ _ _)
      | (with_reducible exact privitylaw01_awake.mono _)
      | (with_reducible exact LeO.refl _)
      | (with_reducible exact LeO.none _)
      | (with_reducible refine LeO.ite ?_ ?_)
      | (with_reducible refine LeO.bind ?_ (fun _ => ?_))
      | exact ih0 _ _ _ _ _
      | exact ih1 _ _ _ _
      | exact field_Add.mono _ _ _ _
      | exact field_Inverse.mono _ _ _
      | exact field_Mul.mono _ _ _ _
      | exact field_Sub.mono _ _ _ _
      | exact privitylaw01_awake.mono _
      | exact LeO.none _
      | refine LeO.ite ?_ ?_
      | refine LeO.bind ?_ (fun _ => ?_)
set_option maxHeartbeats 8000000 in
set_option maxRecDepth 100000 in
theorem privitylaw01_FieldAxioms.calls (k : Nat) (a0_0 : Int) (a0_1 : Int) (a0_2 : Int) (a0_3 : Int) (r : Bool) (w : World) (hG : Gl w) (h : privitylaw01_FieldAxioms.f k a0_0 a0_1 a0_2 a0_3 = some r) :
    Calls Tryd.prog 8 #[.agg #[.int .u64 a0_0, .int .u64 a0_1, .int .u64 a0_2, .int .u64 a0_3]] w fun e w' => e = .returned (.bool r) ∧ Below w.heap.size w w' := by
  have hu27 := Tryd.underlying27
  have HB := Aside0.mk (Below.refl w.heap.size w)
  have H : ((privitylaw01_fit.f a0_0 a0_1 a0_2 a0_3).bind fun bt221 => ((field_Add.f k bt221.1 bt221.2.1 bt221.2.2.1).bind fun t225 => ((field_Add.f k bt221.1 t225 bt221.2.2.2).bind fun t226 => ((field_Add.f k bt221.1 bt221.2.2.1 bt221.2.2.2).bind fun t227 => ((field_Add.f k bt221.1 bt221.2.1 t227).bind fun t228 => (if t226 = t228 then ((field_Add.f k bt221.1 bt221.2.1 bt221.2.2.1).bind fun t229 => ((field_Add.f k bt221.1 bt221.2.2.1 bt221.2.1).bind fun t230 => (if t229 = t230 then ((field_Add.f k bt221.1 bt221.2.1 0).bind fun t231 => (if t231 = bt221.2.1 then ((field_Neg.f bt221.1 bt221.2.1).bind fun t232 => ((field_Add.f k bt221.1 bt221.2.1 t232).bind fun t233 => (if t233 = 0 then ((field_Sub.f k bt221.1 bt221.2.1 bt221.2.2.1).bind fun t234 => ((field_Neg.f bt221.1 bt221.2.2.1).bind fun t235 => ((field_Add.f k bt221.1 bt221.2.1 t235).bind fun t236 => (privitylaw01_FieldAxioms.j0 k bt221.1 bt221.2.1 bt221.2.2.1 bt221.2.2.2 (t234 == t236))))) else (privitylaw01_FieldAxioms.j0 k bt221.1 bt221.2.1 bt221.2.2.1 bt221.2.2.2 false)))) else (privitylaw01_FieldAxioms.j0 k bt221.1 bt221.2.1 bt221.2.2.1 bt221.2.2.2 false))) else (privitylaw01_FieldAxioms.j0 k bt221.1 bt221.2.1 bt221.2.2.1 bt221.2.2.2 false)))) else (privitylaw01_FieldAxioms.j0 k bt221.1 bt221.2.1 bt221.2.2.1 bt221.2.2.2 false))))))) = some r := h
  clear h
  replace H := Option.bind_eq_some_iff.mp H
  obtain ⟨⟨t221, t222, t223, t224⟩, A20, H⟩ := H
  replace H : ((field_Add.f k t221 t222 t223).bind fun t225 => ((field_Add.f k t221 t225 t224).bind fun t226 => ((field_Add.f k t221 t223 t224).bind fun t227 => ((field_Add.f k t221 t222 t227).bind fun t228 => (if t226 = t228 then ((field_Add.f k t221 t222 t223).bind fun t229 => ((field_Add.f k t221 t223 t222).bind fun t230 => (if t229 = t230 then ((field_Add.f k t221 t222 0).bind fun t231 => (if t231 = t222 then ((field_Neg.f t221 t222).bind fun t232 => ((field_Add.f k t221 t222 t232).bind fun t233 => (if t233 = 0 then ((field_Sub.f k t221 t222 t223).bind fun t234 => ((field_Neg.f t221 t223).bind fun t235 => ((field_Add.f k t221 t222 t235).bind fun t236 => (privitylaw01_FieldAxioms.j0 k t221 t222 t223 t224 (t234 == t236))))) else (privitylaw01_FieldAxioms.j0 k t221 t222 t223 t224 false)))) else (privitylaw01_FieldAxioms.j0 k t221 t222 t223 t224 false))) else (privitylaw01_FieldAxioms.j0 k t221 t222 t223 t224 false)))) else (privitylaw01_FieldAxioms.j0 k t221 t222 t223 t224 false)))))) = some r := H
  have A2 := Aside0.mk A20
  clear A20
  have HC3 := Aside0.mk H
  clear H
  go_enter Tryd.func8, Tryd.ntmps8
  go_upto_region 2 with (first | ((with_reducible refine gate_dst (N := 1) rfl ?_); refine box_event ?hg (N := 1) ?hd (cs := #[.int .u64 a0_0, .int .u64 a0_1, .int .u64 a0_2, .int .u64 a0_3]) (t := 27) ?hr ?_; (case hd => rfl); (case hg => rfl); (case hr => first | (go_simp; done) | (go_simp; rfl)); intro gb220 hg w4 hbox hb; have n0_ := Aside0.mk (below_step (by repeat (first | (with_reducible first | exact HB.out | apply below_alloc | apply pw_below_drewN | apply below_drew1) | exact HB.out)) hb); have n1_ := Aside0.mk (hbox); have n2_ := Aside0.mk ((by rw [hg]; exact (below_size (by repeat (first | (with_reducible first | exact HB.out | apply below_alloc | apply pw_below_drewN | apply below_drew1) | exact HB.out))) : w.heap.size ≤ gb220)); have n3_ := Aside0.mk ((by rw [hg]; exact (below_size (by repeat (first | (with_reducible first | exact HB.out | apply below_alloc | apply pw_below_drewN | apply below_drew1) | exact HB.out))) : w.heap.size ≤ gb220)); clear HB; have HB := n0_; have BK220 := n1_; have GW220 := n2_; have GE220 := n3_; clear n0_ n1_ n2_ n3_; clear hb hbox hg; have hcz5_0 : w4.cell? ⟨gb220, 0, none⟩ = some (.int .u64 a0_0) := (blk_cell BK220.out 0).trans rfl; have hcz5_1 : w4.cell? ⟨gb220, 1, none⟩ = some (.int .u64 a0_1) := (blk_cell BK220.out 1).trans rfl; have hcz5_2 : w4.cell? ⟨gb220, 2, none⟩ = some (.int .u64 a0_2) := (blk_cell BK220.out 2).trans rfl; have hcz5_3 : w4.cell? ⟨gb220, 3, none⟩ = some (.int .u64 a0_3) := (blk_cell BK220.out 3).trans rfl; have hfz5_0 := blk_frozen BK220.out 0; have hfz5_1 := blk_frozen BK220.out 1; have hfz5_2 := blk_frozen BK220.out 2; have hfz5_3 := blk_frozen BK220.out 3) | ((with_reducible refine gate_callee (f := 15) rfl ?_); refine goesL_ (some 13) rfl rfl Tryd.func15 (by kernel_rfl) rfl #[.agg #[.int .u64 a0_0, .int .u64 a0_1, .int .u64 a0_2, .int .u64 a0_3]] rfl (by (try simp only [List.map_toArray, List.map_cons, List.map_nil]); first | done | rfl | (simp only [List.length_drop, List.length_take]; rfl)) ?_; (with_reducible refine (privitylaw01_fit.calls a0_0 a0_1 a0_2 a0_3 t221 t222 t223 t224 _ A2.out).mono ?_); rintro e w6 ⟨rfl, hb⟩; refine ⟨_, rfl, ?_⟩; have n0_ := Aside0.mk (blk_below (g := gb220) (o := .cells #[.int .u64 a0_0, .int .u64 a0_1, .int .u64 a0_2, .int .u64 a0_3] 27 (0, 0)) (by (with_reducible repeat (first | refine blk_drewN ?_ _ | refine blk_drew ?_ | refine blk_alloc ?_ _)); exact BK220.out) hb); have n1_ := Aside0.mk (below_step (by repeat (first | (with_reducible first | exact HB.out | apply below_alloc | apply pw_below_drewN | apply below_drew1 | refine below_set ?_ GE220.out) | exact HB.out)) hb); clear BK220; clear HB; have BK220 := n0_; have HB := n1_; clear n0_ n1_; (try clear hb); (try clear hb2); (try clear hk); (try clear hi)))
  (try simp only [Act.put, List.setIfInBounds_toArray, List.set_cons_zero, List.set_cons_succ])
  go_cut [7] (fun v7 wc => ∃ (kq : Nat) (x7_2 : Bool), v7 = .bool x7_2 ∧ Aside0 (privitylaw01_FieldAxioms.j0 kq t221 t222 t223 t224 x7_2 = some r) ∧ Aside0 (kq ≤ k) ∧ Aside0 (wc.heap[gb220]? = some (.cells #[.int .u64 a0_0, .int .u64 a0_1, .int .u64 a0_2, .int .u64 a0_3] 27 (0, 0))) ∧ Aside0 (Below w.heap.size w wc))
  case first =>
    have H := HC3.out
    clear HC3
    replace H := Option.bind_eq_some_iff.mp H
    obtain ⟨t225, A70, H⟩ := H
    replace H : ((field_Add.f k t221 t225 t224).bind fun t226 => ((field_Add.f k t221 t223 t224).bind fun t227 => ((field_Add.f k t221 t222 t227).bind fun t228 => (if t226 = t228 then ((field_Add.f k t221 t222 t223).bind fun t229 => ((field_Add.f k t221 t223 t222).bind fun t230 => (if t229 = t230 then ((field_Add.f k t221 t222 0).bind fun t231 => (if t231 = t222 then ((field_Neg.f t221 t222).bind fun t232 => ((field_Add.f k t221 t222 t232).bind fun t233 => (if t233 = 0 then ((field_Sub.f k t221 t222 t223).bind fun t234 => ((field_Neg.f t221 t223).bind fun t235 => ((field_Add.f k t221 t222 t235).bind fun t236 => (privitylaw01_FieldAxioms.j0 k t221 t222 t223 t224 (t234 == t236))))) else (privitylaw01_FieldAxioms.j0 k t221 t222 t223 t224 false)))) else (privitylaw01_FieldAxioms.j0 k t221 t222 t223 t224 false))) else (privitylaw01_FieldAxioms.j0 k t221 t222 t223 t224 false)))) else (privitylaw01_FieldAxioms.j0 k t221 t222 t223 t224 false))))) = some r := H
    have A7 := Aside0.mk A70
    clear A70
    replace H := Option.bind_eq_some_iff.mp H
    obtain ⟨t226, A80, H⟩ := H
    replace H : ((field_Add.f k t221 t223 t224).bind fun t227 => ((field_Add.f k t221 t222 t227).bind fun t228 => (if t226 = t228 then ((field_Add.f k t221 t222 t223).bind fun t229 => ((field_Add.f k t221 t223 t222).bind fun t230 => (if t229 = t230 then ((field_Add.f k t221 t222 0).bind fun t231 => (if t231 = t222 then ((field_Neg.f t221 t222).bind fun t232 => ((field_Add.f k t221 t222 t232).bind fun t233 => (if t233 = 0 then ((field_Sub.f k t221 t222 t223).bind fun t234 => ((field_Neg.f t221 t223).bind fun t235 => ((field_Add.f k t221 t222 t235).bind fun t236 => (privitylaw01_FieldAxioms.j0 k t221 t222 t223 t224 (t234 == t236))))) else (privitylaw01_FieldAxioms.j0 k t221 t222 t223 t224 false)))) else (privitylaw01_FieldAxioms.j0 k t221 t222 t223 t224 false))) else (privitylaw01_FieldAxioms.j0 k t221 t222 t223 t224 false)))) else (privitylaw01_FieldAxioms.j0 k t221 t222 t223 t224 false)))) = some r := H
    have A8 := Aside0.mk A80
    clear A80
    replace H := Option.bind_eq_some_iff.mp H
    obtain ⟨t227, A90, H⟩ := H
    replace H : ((field_Add.f k t221 t222 t227).bind fun t228 => (if t226 = t228 then ((field_Add.f k t221 t222 t223).bind fun t229 => ((field_Add.f k t221 t223 t222).bind fun t230 => (if t229 = t230 then ((field_Add.f k t221 t222 0).bind fun t231 => (if t231 = t222 then ((field_Neg.f t221 t222).bind fun t232 => ((field_Add.f k t221 t222 t232).bind fun t233 => (if t233 = 0 then ((field_Sub.f k t221 t222 t223).bind fun t234 => ((field_Neg.f t221 t223).bind fun t235 => ((field_Add.f k t221 t222 t235).bind fun t236 => (privitylaw01_FieldAxioms.j0 k t221 t222 t223 t224 (t234 == t236))))) else (privitylaw01_FieldAxioms.j0 k t221 t222 t223 t224 false)))) else (privitylaw01_FieldAxioms.j0 k t221 t222 t223 t224 false))) else (privitylaw01_FieldAxioms.j0 k t221 t222 t223 t224 false)))) else (privitylaw01_FieldAxioms.j0 k t221 t222 t223 t224 false))) = some r := H
    have A9 := Aside0.mk A90
    clear A90
    replace H := Option.bind_eq_some_iff.mp H
    obtain ⟨t228, A100, H⟩ := H
    replace H : (if t226 = t228 then ((field_Add.f k t221 t222 t223).bind fun t229 => ((field_Add.f k t221 t223 t222).bind fun t230 => (if t229 = t230 then ((field_Add.f k t221 t222 0).bind fun t231 => (if t231 = t222 then ((field_Neg.f t221 t222).bind fun t232 => ((field_Add.f k t221 t222 t232).bind fun t233 => (if t233 = 0 then ((field_Sub.f k t221 t222 t223).bind fun t234 => ((field_Neg.f t221 t223).bind fun t235 => ((field_Add.f k t221 t222 t235).bind fun t236 => (privitylaw01_FieldAxioms.j0 k t221 t222 t223 t224 (t234 == t236))))) else (privitylaw01_FieldAxioms.j0 k t221 t222 t223 t224 false)))) else (privitylaw01_FieldAxioms.j0 k t221 t222 t223 t224 false))) else (privitylaw01_FieldAxioms.j0 k t221 t222 t223 t224 false)))) else (privitylaw01_FieldAxioms.j0 k t221 t222 t223 t224 false)) = some r := H
    have A10 := Aside0.mk A100
    clear A100
    by_cases c11 : t226 = t228
    · rw [if_pos c11] at H
      have c11b0 : (t226 == t228) = true := beq_iff_eq.mpr c11
      have c11b1 : (t226 != t228) = false := bne_eq_false_iff_eq.mpr c11
      clear c11
      (first | rw [c11b0] | (simp only [i64_w, i32_w]; rw [c11b0]) | skip)
      replace H := Option.bind_eq_some_iff.mp H
      obtain ⟨t229, A120, H⟩ := H
      replace H : ((field_Add.f k t221 t223 t222).bind fun t230 => (if t229 = t230 then ((field_Add.f k t221 t222 0).bind fun t231 => (if t231 = t222 then ((field_Neg.f t221 t222).bind fun t232 => ((field_Add.f k t221 t222 t232).bind fun t233 => (if t233 = 0 then ((field_Sub.f k t221 t222 t223).bind fun t234 => ((field_Neg.f t221 t223).bind fun t235 => ((field_Add.f k t221 t222 t235).bind fun t236 => (privitylaw01_FieldAxioms.j0 k t221 t222 t223 t224 (t234 == t236))))) else (privitylaw01_FieldAxioms.j0 k t221 t222 t223 t224 false)))) else (privitylaw01_FieldAxioms.j0 k t221 t222 t223 t224 false))) else (privitylaw01_FieldAxioms.j0 k t221 t222 t223 t224 false))) = some r := H
      have A12 := Aside0.mk A120
      clear A120
      replace H := Option.bind_eq_some_iff.mp H
      obtain ⟨t230, A130, H⟩ := H
      replace H : (if t229 = t230 then ((field_Add.f k t221 t222 0).bind fun t231 => (if t231 = t222 then ((field_Neg.f t221 t222).bind fun t232 => ((field_Add.f k t221 t222 t232).bind fun t233 => (if t233 = 0 then ((field_Sub.f k t221 t222 t223).bind fun t234 => ((field_Neg.f t221 t223).bind fun t235 => ((field_Add.f k t221 t222 t235).bind fun t236 => (privitylaw01_FieldAxioms.j0 k t221 t222 t223 t224 (t234 == t236))))) else (privitylaw01_FieldAxioms.j0 k t221 t222 t223 t224 false)))) else (privitylaw01_FieldAxioms.j0 k t221 t222 t223 t224 false))) else (privitylaw01_FieldAxioms.j0 k t221 t222 t223 t224 false)) = some r := H
      have A13 := Aside0.mk A130
      clear A130
      by_cases c14 : t229 = t230
      · rw [if_pos c14] at H
        have c14b0 : (t229 == t230) = true := beq_iff_eq.mpr c14
        have c14b1 : (t229 != t230) = false := bne_eq_false_iff_eq.mpr c14
        clear c14
        replace H := Option.bind_eq_some_iff.mp H
        obtain ⟨t231, A150, H⟩ := H
        replace H : (if t231 = t222 then ((field_Neg.f t221 t222).bind fun t232 => ((field_Add.f k t221 t222 t232).bind fun t233 => (if t233 = 0 then ((field_Sub.f k t221 t222 t223).bind fun t234 => ((field_Neg.f t221 t223).bind fun t235 => ((field_Add.f k t221 t222 t235).bind fun t236 => (privitylaw01_FieldAxioms.j0 k t221 t222 t223 t224 (t234 == t236))))) else (privitylaw01_FieldAxioms.j0 k t221 t222 t223 t224 false)))) else (privitylaw01_FieldAxioms.j0 k t221 t222 t223 t224 false)) = some r := H
        have A15 := Aside0.mk A150
        clear A150
        by_cases c16 : t231 = t222
        · rw [if_pos c16] at H
          have c16b0 : (t231 == t222) = true := beq_iff_eq.mpr c16
          have c16b1 : (t231 != t222) = false := bne_eq_false_iff_eq.mpr c16
          clear c16
          replace H := Option.bind_eq_some_iff.mp H
          obtain ⟨t232, A170, H⟩ := H
          replace H : ((field_Add.f k t221 t222 t232).bind fun t233 => (if t233 = 0 then ((field_Sub.f k t221 t222 t223).bind fun t234 => ((field_Neg.f t221 t223).bind fun t235 => ((field_Add.f k t221 t222 t235).bind fun t236 => (privitylaw01_FieldAxioms.j0 k t221 t222 t223 t224 (t234 == t236))))) else (privitylaw01_FieldAxioms.j0 k t221 t222 t223 t224 false))) = some r := H
          have A17 := Aside0.mk A170
          clear A170
          replace H := Option.bind_eq_some_iff.mp H
          obtain ⟨t233, A180, H⟩ := H
          replace H : (if t233 = 0 then ((field_Sub.f k t221 t222 t223).bind fun t234 => ((field_Neg.f t221 t223).bind fun t235 => ((field_Add.f k t221 t222 t235).bind fun t236 => (privitylaw01_FieldAxioms.j0 k t221 t222 t223 t224 (t234 == t236))))) else (privitylaw01_FieldAxioms.j0 k t221 t222 t223 t224 false)) = some r := H
          have A18 := Aside0.mk A180
          clear A180
          by_cases c19 : t233 = 0
          · rw [if_pos c19] at H
            have c19b0 : (t233 == 0) = true := beq_iff_eq.mpr c19
            have c19b1 : (t233 != 0) = false := bne_eq_false_iff_eq.mpr c19
            clear c19
            replace H := Option.bind_eq_some_iff.mp H
            obtain ⟨t234, A200, H⟩ := H
            replace H : ((field_Neg.f t221 t223).bind fun t235 => ((field_Add.f k t221 t222 t235).bind fun t236 => (privitylaw01_FieldAxioms.j0 k t221 t222 t223 t224 (t234 == t236)))) = some r := H
            have A20 := Aside0.mk A200
            clear A200
            replace H := Option.bind_eq_some_iff.mp H
            obtain ⟨t235, A210, H⟩ := H
            replace H : ((field_Add.f k t221 t222 t235).bind fun t236 => (privitylaw01_FieldAxioms.j0 k t221 t222 t223 t224 (t234 == t236))) = some r := H
            have A21 := Aside0.mk A210
            clear A210
            replace H := Option.bind_eq_some_iff.mp H
            obtain ⟨t236, A220, H⟩ := H
            replace H : (privitylaw01_FieldAxioms.j0 k t221 t222 t223 t224 (t234 == t236)) = some r := H
            have A22 := Aside0.mk A220
            clear A220
            have H' := Aside0.mk H
            clear H
            go_wp2_with (first | ((with_reducible refine gate_callee (f := 21) rfl ?_); refine goesL_ (some 22) rfl rfl Tryd.func21 (by kernel_rfl) rfl #[.int .u64 t221, .int .u64 t222, .int .u64 t223] rfl (by (try simp only [List.map_toArray, List.map_cons, List.map_nil]); first | done | rfl | (simp only [List.length_drop, List.length_take]; rfl)) ?_; (with_reducible refine (field_Add.calls k t221 t222 t223 t225 _ A7.out).mono ?_); rintro e w' ⟨rfl, ⟨nd, rfl⟩⟩; refine ⟨_, rfl, ?_⟩; (try clear A7)) | ((with_reducible refine gate_callee (f := 21) rfl ?_); refine goesL_ (some 24) rfl rfl Tryd.func21 (by kernel_rfl) rfl #[.int .u64 t221, .int .u64 t225, .int .u64 t224] rfl (by (try simp only [List.map_toArray, List.map_cons, List.map_nil]); first | done | rfl | (simp only [List.length_drop, List.length_take]; rfl)) ?_; (with_reducible refine (field_Add.calls k t221 t225 t224 t226 _ A8.out).mono ?_); rintro e w' ⟨rfl, ⟨nd, rfl⟩⟩; refine ⟨_, rfl, ?_⟩) | ((with_reducible refine gate_callee (f := 21) rfl ?_); refine goesL_ (some 30) rfl rfl Tryd.func21 (by kernel_rfl) rfl #[.int .u64 t221, .int .u64 t223, .int .u64 t224] rfl (by (try simp only [List.map_toArray, List.map_cons, List.map_nil]); first | done | rfl | (simp only [List.length_drop, List.length_take]; rfl)) ?_; (with_reducible refine (field_Add.calls k t221 t223 t224 t227 _ A9.out).mono ?_); rintro e w' ⟨rfl, ⟨nd, rfl⟩⟩; refine ⟨_, rfl, ?_⟩) | ((with_reducible refine gate_callee (f := 21) rfl ?_); refine goesL_ (some 31) rfl rfl Tryd.func21 (by kernel_rfl) rfl #[.int .u64 t221, .int .u64 t222, .int .u64 t227] rfl (by (try simp only [List.map_toArray, List.map_cons, List.map_nil]); first | done | rfl | (simp only [List.length_drop, List.length_take]; rfl)) ?_; (with_reducible refine (field_Add.calls k t221 t222 t227 t228 _ A10.out).mono ?_); rintro e w' ⟨rfl, ⟨nd, rfl⟩⟩; refine ⟨_, rfl, ?_⟩) | (go_at_call 21; (with_reducible refine (field_Add.calls k t221 t222 t223 t229 _ A12.out).mono ?_); rintro e w' ⟨rfl, ⟨nd, rfl⟩⟩; (try clear A12)) | (go_at_call 21; (with_reducible refine (field_Add.calls k t221 t223 t222 t230 _ A13.out).mono ?_); rintro e w' ⟨rfl, ⟨nd, rfl⟩⟩) | (go_at_call 21; (with_reducible refine (field_Add.calls k t221 t222 0 t231 _ A15.out).mono ?_); rintro e w' ⟨rfl, ⟨nd, rfl⟩⟩) | (go_at_call 20; (with_reducible refine (field_Neg.calls t221 t222 t232 _ A17.out).mono ?_); rintro e w' ⟨rfl, ⟨nd, rfl⟩⟩) | (go_at_call 21; (with_reducible refine (field_Add.calls k t221 t222 t232 t233 _ A18.out).mono ?_); rintro e w' ⟨rfl, ⟨nd, rfl⟩⟩) | (go_at_call 22; (with_reducible refine (field_Sub.calls k t221 t222 t223 t234 _ A20.out).mono ?_); rintro e w' ⟨rfl, ⟨nd, rfl⟩⟩) | (go_at_call 20; (with_reducible refine (field_Neg.calls t221 t223 t235 _ A21.out).mono ?_); rintro e w' ⟨rfl, ⟨nd, rfl⟩⟩) | (go_at_call 21; (with_reducible refine (field_Add.calls k t221 t222 t235 t236 _ A22.out).mono ?_); rintro e w' ⟨rfl, ⟨nd, rfl⟩⟩))
            go_meet
            case rel => exact ⟨_, ((t234 == t236)), (by first | rfl | (simp; done) | (simp [*]; done)), H', ⟨by first | omega | exact Nat.le_refl _⟩, ⟨by (with_reducible repeat (first | refine blk_drewN ?_ _ | refine blk_drew ?_ | refine blk_alloc ?_ _)); exact BK220.out⟩, ⟨by repeat (first | (with_reducible first | exact HB.out | apply below_alloc | apply pw_below_drewN | apply below_drew1 | refine below_set ?_ GE220.out) | exact HB.out)⟩⟩
          · rw [if_neg c19] at H
            have c19b0 : (t233 == 0) = false := beq_eq_false_iff_ne.mpr c19
            have c19b1 : (t233 != 0) = true := bne_iff_ne.mpr c19
            have H' := Aside0.mk H
            clear H
            go_wp2_with (first | ((with_reducible refine gate_callee (f := 21) rfl ?_); refine goesL_ (some 22) rfl rfl Tryd.func21 (by kernel_rfl) rfl #[.int .u64 t221, .int .u64 t222, .int .u64 t223] rfl (by (try simp only [List.map_toArray, List.map_cons, List.map_nil]); first | done | rfl | (simp only [List.length_drop, List.length_take]; rfl)) ?_; (with_reducible refine (field_Add.calls k t221 t222 t223 t225 _ A7.out).mono ?_); rintro e w' ⟨rfl, ⟨nd, rfl⟩⟩; refine ⟨_, rfl, ?_⟩; (try clear A7)) | ((with_reducible refine gate_callee (f := 21) rfl ?_); refine goesL_ (some 24) rfl rfl Tryd.func21 (by kernel_rfl) rfl #[.int .u64 t221, .int .u64 t225, .int .u64 t224] rfl (by (try simp only [List.map_toArray, List.map_cons, List.map_nil]); first | done | rfl | (simp only [List.length_drop, List.length_take]; rfl)) ?_; (with_reducible refine (field_Add.calls k t221 t225 t224 t226 _ A8.out).mono ?_); rintro e w' ⟨rfl, ⟨nd, rfl⟩⟩; refine ⟨_, rfl, ?_⟩) | ((with_reducible refine gate_callee (f := 21) rfl ?_); refine goesL_ (some 30) rfl rfl Tryd.func21 (by kernel_rfl) rfl #[.int .u64 t221, .int .u64 t223, .int .u64 t224] rfl (by (try simp only [List.map_toArray, List.map_cons, List.map_nil]); first | done | rfl | (simp only [List.length_drop, List.length_take]; rfl)) ?_; (with_reducible refine (field_Add.calls k t221 t223 t224 t227 _ A9.out).mono ?_); rintro e w' ⟨rfl, ⟨nd, rfl⟩⟩; refine ⟨_, rfl, ?_⟩) | ((with_reducible refine gate_callee (f := 21) rfl ?_); refine goesL_ (some 31) rfl rfl Tryd.func21 (by kernel_rfl) rfl #[.int .u64 t221, .int .u64 t222, .int .u64 t227] rfl (by (try simp only [List.map_toArray, List.map_cons, List.map_nil]); first | done | rfl | (simp only [List.length_drop, List.length_take]; rfl)) ?_; (with_reducible refine (field_Add.calls k t221 t222 t227 t228 _ A10.out).mono ?_); rintro e w' ⟨rfl, ⟨nd, rfl⟩⟩; refine ⟨_, rfl, ?_⟩) | (go_at_call 21; (with_reducible refine (field_Add.calls k t221 t222 t223 t229 _ A12.out).mono ?_); rintro e w' ⟨rfl, ⟨nd, rfl⟩⟩; (try clear A12)) | (go_at_call 21; (with_reducible refine (field_Add.calls k t221 t223 t222 t230 _ A13.out).mono ?_); rintro e w' ⟨rfl, ⟨nd, rfl⟩⟩) | (go_at_call 21; (with_reducible refine (field_Add.calls k t221 t222 0 t231 _ A15.out).mono ?_); rintro e w' ⟨rfl, ⟨nd, rfl⟩⟩) | (go_at_call 20; (with_reducible refine (field_Neg.calls t221 t222 t232 _ A17.out).mono ?_); rintro e w' ⟨rfl, ⟨nd, rfl⟩⟩) | (go_at_call 21; (with_reducible refine (field_Add.calls k t221 t222 t232 t233 _ A18.out).mono ?_); rintro e w' ⟨rfl, ⟨nd, rfl⟩⟩))
            go_meet
            case rel => exact ⟨_, (false), (by first | rfl | (simp; done) | (simp [*]; done)), H', ⟨by first | omega | exact Nat.le_refl _⟩, ⟨by (with_reducible repeat (first | refine blk_drewN ?_ _ | refine blk_drew ?_ | refine blk_alloc ?_ _)); exact BK220.out⟩, ⟨by repeat (first | (with_reducible first | exact HB.out | apply below_alloc | apply pw_below_drewN | apply below_drew1 | refine below_set ?_ GE220.out) | exact HB.out)⟩⟩
        · rw [if_neg c16] at H
          have c16b0 : (t231 == t222) = false := beq_eq_false_iff_ne.mpr c16
          have c16b1 : (t231 != t222) = true := bne_iff_ne.mpr c16
          have H' := Aside0.mk H
          clear H
          go_wp2_with (first | ((with_reducible refine gate_callee (f := 21) rfl ?_); refine goesL_ (some 22) rfl rfl Tryd.func21 (by kernel_rfl) rfl #[.int .u64 t221, .int .u64 t222, .int .u64 t223] rfl (by (try simp only [List.map_toArray, List.map_cons, List.map_nil]); first | done | rfl | (simp only [List.length_drop, List.length_take]; rfl)) ?_; (with_reducible refine (field_Add.calls k t221 t222 t223 t225 _ A7.out).mono ?_); rintro e w' ⟨rfl, ⟨nd, rfl⟩⟩; refine ⟨_, rfl, ?_⟩; (try clear A7)) | ((with_reducible refine gate_callee (f := 21) rfl ?_); refine goesL_ (some 24) rfl rfl Tryd.func21 (by kernel_rfl) rfl #[.int .u64 t221, .int .u64 t225, .int .u64 t224] rfl (by (try simp only [List.map_toArray, List.map_cons, List.map_nil]); first | done | rfl | (simp only [List.length_drop, List.length_take]; rfl)) ?_; (with_reducible refine (field_Add.calls k t221 t225 t224 t226 _ A8.out).mono ?_); rintro e w' ⟨rfl, ⟨nd, rfl⟩⟩; refine ⟨_, rfl, ?_⟩) | ((with_reducible refine gate_callee (f := 21) rfl ?_); refine goesL_ (some 30) rfl rfl Tryd.func21 (by kernel_rfl) rfl #[.int .u64 t221, .int .u64 t223, .int .u64 t224] rfl (by (try simp only [List.map_toArray, List.map_cons, List.map_nil]); first | done | rfl | (simp only [List.length_drop, List.length_take]; rfl)) ?_; (with_reducible refine (field_Add.calls k t221 t223 t224 t227 _ A9.out).mono ?_); rintro e w' ⟨rfl, ⟨nd, rfl⟩⟩; refine ⟨_, rfl, ?_⟩) | ((with_reducible refine gate_callee (f := 21) rfl ?_); refine goesL_ (some 31) rfl rfl Tryd.func21 (by kernel_rfl) rfl #[.int .u64 t221, .int .u64 t222, .int .u64 t227] rfl (by (try simp only [List.map_toArray, List.map_cons, List.map_nil]); first | done | rfl | (simp only [List.length_drop, List.length_take]; rfl)) ?_; (with_reducible refine (field_Add.calls k t221 t222 t227 t228 _ A10.out).mono ?_); rintro e w' ⟨rfl, ⟨nd, rfl⟩⟩; refine ⟨_, rfl, ?_⟩) | (go_at_call 21; (with_reducible refine (field_Add.calls k t221 t222 t223 t229 _ A12.out).mono ?_); rintro e w' ⟨rfl, ⟨nd, rfl⟩⟩; (try clear A12)) | (go_at_call 21; (with_reducible refine (field_Add.calls k t221 t223 t222 t230 _ A13.out).mono ?_); rintro e w' ⟨rfl, ⟨nd, rfl⟩⟩) | (go_at_call 21; (with_reducible refine (field_Add.calls k t221 t222 0 t231 _ A15.out).mono ?_); rintro e w' ⟨rfl, ⟨nd, rfl⟩⟩))
          go_meet
          case rel => exact ⟨_, (false), (by first | rfl | (simp; done) | (simp [*]; done)), H', ⟨by first | omega | exact Nat.le_refl _⟩, ⟨by (with_reducible repeat (first | refine blk_drewN ?_ _ | refine blk_drew ?_ | refine blk_alloc ?_ _)); exact BK220.out⟩, ⟨by repeat (first | (with_reducible first | exact HB.out | apply below_alloc | apply pw_below_drewN | apply below_drew1 | refine below_set ?_ GE220.out) | exact HB.out)⟩⟩
      · rw [if_neg c14] at H
        have c14b0 : (t229 == t230) = false := beq_eq_false_iff_ne.mpr c14
        have c14b1 : (t229 != t230) = true := bne_iff_ne.mpr c14
        have H' := Aside0.mk H
        clear H
        go_wp2_with (first | ((with_reducible refine gate_callee (f := 21) rfl ?_); refine goesL_ (some 22) rfl rfl Tryd.func21 (by kernel_rfl) rfl #[.int .u64 t221, .int .u64 t222, .int .u64 t223] rfl (by (try simp only [List.map_toArray, List.map_cons, List.map_nil]); first | done | rfl | (simp only [List.length_drop, List.length_take]; rfl)) ?_; (with_reducible refine (field_Add.calls k t221 t222 t223 t225 _ A7.out).mono ?_); rintro e w' ⟨rfl, ⟨nd, rfl⟩⟩; refine ⟨_, rfl, ?_⟩; (try clear A7)) | ((with_reducible refine gate_callee (f := 21) rfl ?_); refine goesL_ (some 24) rfl rfl Tryd.func21 (by kernel_rfl) rfl #[.int .u64 t221, .int .u64 t225, .int .u64 t224] rfl (by (try simp only [List.map_toArray, List.map_cons, List.map_nil]); first | done | rfl | (simp only [List.length_drop, List.length_take]; rfl)) ?_; (with_reducible refine (field_Add.calls k t221 t225 t224 t226 _ A8.out).mono ?_); rintro e w' ⟨rfl, ⟨nd, rfl⟩⟩; refine ⟨_, rfl, ?_⟩) | ((with_reducible refine gate_callee (f := 21) rfl ?_); refine goesL_ (some 30) rfl rfl Tryd.func21 (by kernel_rfl) rfl #[.int .u64 t221, .int .u64 t223, .int .u64 t224] rfl (by (try simp only [List.map_toArray, List.map_cons, List.map_nil]); first | done | rfl | (simp only [List.length_drop, List.length_take]; rfl)) ?_; (with_reducible refine (field_Add.calls k t221 t223 t224 t227 _ A9.out).mono ?_); rintro e w' ⟨rfl, ⟨nd, rfl⟩⟩; refine ⟨_, rfl, ?_⟩) | ((with_reducible refine gate_callee (f := 21) rfl ?_); refine goesL_ (some 31) rfl rfl Tryd.func21 (by kernel_rfl) rfl #[.int .u64 t221, .int .u64 t222, .int .u64 t227] rfl (by (try simp only [List.map_toArray, List.map_cons, List.map_nil]); first | done | rfl | (simp only [List.length_drop, List.length_take]; rfl)) ?_; (with_reducible refine (field_Add.calls k t221 t222 t227 t228 _ A10.out).mono ?_); rintro e w' ⟨rfl, ⟨nd, rfl⟩⟩; refine ⟨_, rfl, ?_⟩) | (go_at_call 21; (with_reducible refine (field_Add.calls k t221 t222 t223 t229 _ A12.out).mono ?_); rintro e w' ⟨rfl, ⟨nd, rfl⟩⟩; (try clear A12)) | (go_at_call 21; (with_reducible refine (field_Add.calls k t221 t223 t222 t230 _ A13.out).mono ?_); rintro e w' ⟨rfl, ⟨nd, rfl⟩⟩))
        go_meet
        case rel => exact ⟨_, (false), (by first | rfl | (simp; done) | (simp [*]; done)), H', ⟨by first | omega | exact Nat.le_refl _⟩, ⟨by (with_reducible repeat (first | refine blk_drewN ?_ _ | refine blk_drew ?_ | refine blk_alloc ?_ _)); exact BK220.out⟩, ⟨by repeat (first | (with_reducible first | exact HB.out | apply below_alloc | apply pw_below_drewN | apply below_drew1 | refine below_set ?_ GE220.out) | exact HB.out)⟩⟩
    · rw [if_neg c11] at H
      have c11b0 : (t226 == t228) = false := beq_eq_false_iff_ne.mpr c11
      have c11b1 : (t226 != t228) = true := bne_iff_ne.mpr c11
      (first | rw [c11b0] | (simp only [i64_w, i32_w]; rw [c11b0]) | skip)
      have H' := Aside0.mk H
      clear H
      go_wp2_with (first | ((with_reducible refine gate_callee (f := 21) rfl ?_); refine goesL_ (some 22) rfl rfl Tryd.func21 (by kernel_rfl) rfl #[.int .u64 t221, .int .u64 t222, .int .u64 t223] rfl (by (try simp only [List.map_toArray, List.map_cons, List.map_nil]); first | done | rfl | (simp only [List.length_drop, List.length_take]; rfl)) ?_; (with_reducible refine (field_Add.calls k t221 t222 t223 t225 _ A7.out).mono ?_); rintro e w' ⟨rfl, ⟨nd, rfl⟩⟩; refine ⟨_, rfl, ?_⟩) | ((with_reducible refine gate_callee (f := 21) rfl ?_); refine goesL_ (some 24) rfl rfl Tryd.func21 (by kernel_rfl) rfl #[.int .u64 t221, .int .u64 t225, .int .u64 t224] rfl (by (try simp only [List.map_toArray, List.map_cons, List.map_nil]); first | done | rfl | (simp only [List.length_drop, List.length_take]; rfl)) ?_; (with_reducible refine (field_Add.calls k t221 t225 t224 t226 _ A8.out).mono ?_); rintro e w' ⟨rfl, ⟨nd, rfl⟩⟩; refine ⟨_, rfl, ?_⟩) | ((with_reducible refine gate_callee (f := 21) rfl ?_); refine goesL_ (some 30) rfl rfl Tryd.func21 (by kernel_rfl) rfl #[.int .u64 t221, .int .u64 t223, .int .u64 t224] rfl (by (try simp only [List.map_toArray, List.map_cons, List.map_nil]); first | done | rfl | (simp only [List.length_drop, List.length_take]; rfl)) ?_; (with_reducible refine (field_Add.calls k t221 t223 t224 t227 _ A9.out).mono ?_); rintro e w' ⟨rfl, ⟨nd, rfl⟩⟩; refine ⟨_, rfl, ?_⟩) | ((with_reducible refine gate_callee (f := 21) rfl ?_); refine goesL_ (some 31) rfl rfl Tryd.func21 (by kernel_rfl) rfl #[.int .u64 t221, .int .u64 t222, .int .u64 t227] rfl (by (try simp only [List.map_toArray, List.map_cons, List.map_nil]); first | done | rfl | (simp only [List.length_drop, List.length_take]; rfl)) ?_; (with_reducible refine (field_Add.calls k t221 t222 t227 t228 _ A10.out).mono ?_); rintro e w' ⟨rfl, ⟨nd, rfl⟩⟩; refine ⟨_, rfl, ?_⟩))
      go_meet
      case rel => exact ⟨_, (false), (by first | rfl | (simp; done) | (simp [*]; done)), H', ⟨by first | omega | exact Nat.le_refl _⟩, ⟨by (with_reducible repeat (first | refine blk_drewN ?_ _ | refine blk_drew ?_ | refine blk_alloc ?_ _)); exact BK220.out⟩, ⟨by repeat (first | (with_reducible first | exact HB.out | apply below_alloc | apply pw_below_drewN | apply below_drew1 | refine below_set ?_ GE220.out) | exact HB.out)⟩⟩
  case rest =>
    clear HC3
    try clear c1
    try clear c2
    try clear p2
    try clear c8
    try clear c11
    try clear c11b0
    try clear c11b1
    try clear c14
    try clear c14b0
    try clear c14b1
    try clear c15
    try clear c16
    try clear c16b0
    try clear c16b1
    try clear c19
    try clear c19b0
    try clear c19b1
    try clear c21
    try clear hcz5_0
    try clear hcz5_1
    try clear hcz5_2
    try clear hcz5_3
    try clear hfz5_0
    try clear hfz5_1
    try clear hfz5_2
    try clear hfz5_3
    obtain ⟨kq, x7_2, rfl, HA, HJ2, BK220, HB⟩ := hcut
    cases kq with
    | zero => exact absurd HA.out (by simp [privitylaw01_FieldAxioms.j0])
    | succ kj2 =>
      have H := HA.out
      clear HA
      simp only [privitylaw01_FieldAxioms.j0] at H
      have HC23 := Aside0.mk H
      clear H
      go_upto_region 3 with (fail)
      go_cut [8] (fun v8 wc => ∃ (kq : Nat) (x8_22 : Bool), v8 = .bool x8_22 ∧ Aside0 (privitylaw01_FieldAxioms.j1 kq t221 t222 x7_2 x8_22 = some r) ∧ Aside0 (kq ≤ kj2) ∧ Aside0 (wc.heap[gb220]? = some (.cells #[.int .u64 a0_0, .int .u64 a0_1, .int .u64 a0_2, .int .u64 a0_3] 27 (0, 0))) ∧ Aside0 (Below w.heap.size w wc))
      case first =>
        have H := HC23.out
        clear HC23
        replace H := Option.bind_eq_some_iff.mp H
        obtain ⟨t237, A240, H⟩ := H
        replace H : ((field_Mul.f kj2 t221 t237 t224).bind fun t238 => ((field_Mul.f kj2 t221 t223 t224).bind fun t239 => ((field_Mul.f kj2 t221 t222 t239).bind fun t240 => (if t238 = t240 then ((field_Mul.f kj2 t221 t222 t223).bind fun t241 => ((field_Mul.f kj2 t221 t223 t222).bind fun t242 => (if t241 = t242 then ((field_Mul.f kj2 t221 t222 1).bind fun t243 => (if t243 = t222 then ((field_Add.f kj2 t221 t223 t224).bind fun t244 => ((field_Mul.f kj2 t221 t222 t244).bind fun t245 => ((field_Mul.f kj2 t221 t222 t223).bind fun t246 => ((field_Mul.f kj2 t221 t222 t224).bind fun t247 => ((field_Add.f kj2 t221 t246 t247).bind fun t248 => (privitylaw01_FieldAxioms.j1 kj2 t221 t222 x7_2 (t245 == t248))))))) else (privitylaw01_FieldAxioms.j1 kj2 t221 t222 x7_2 false))) else (privitylaw01_FieldAxioms.j1 kj2 t221 t222 x7_2 false)))) else (privitylaw01_FieldAxioms.j1 kj2 t221 t222 x7_2 false))))) = some r := H
        have A24 := Aside0.mk A240
        clear A240
        replace H := Option.bind_eq_some_iff.mp H
        obtain ⟨t238, A250, H⟩ := H
        replace H : ((field_Mul.f kj2 t221 t223 t224).bind fun t239 => ((field_Mul.f kj2 t221 t222 t239).bind fun t240 => (if t238 = t240 then ((field_Mul.f kj2 t221 t222 t223).bind fun t241 => ((field_Mul.f kj2 t221 t223 t222).bind fun t242 => (if t241 = t242 then ((field_Mul.f kj2 t221 t222 1).bind fun t243 => (if t243 = t222 then ((field_Add.f kj2 t221 t223 t224).bind fun t244 => ((field_Mul.f kj2 t221 t222 t244).bind fun t245 => ((field_Mul.f kj2 t221 t222 t223).bind fun t246 => ((field_Mul.f kj2 t221 t222 t224).bind fun t247 => ((field_Add.f kj2 t221 t246 t247).bind fun t248 => (privitylaw01_FieldAxioms.j1 kj2 t221 t222 x7_2 (t245 == t248))))))) else (privitylaw01_FieldAxioms.j1 kj2 t221 t222 x7_2 false))) else (privitylaw01_FieldAxioms.j1 kj2 t221 t222 x7_2 false)))) else (privitylaw01_FieldAxioms.j1 kj2 t221 t222 x7_2 false)))) = some r := H
        have A25 := Aside0.mk A250
        clear A250
        replace H := Option.bind_eq_some_iff.mp H
        obtain ⟨t239, A260, H⟩ := H
        replace H : ((field_Mul.f kj2 t221 t222 t239).bind fun t240 => (if t238 = t240 then ((field_Mul.f kj2 t221 t222 t223).bind fun t241 => ((field_Mul.f kj2 t221 t223 t222).bind fun t242 => (if t241 = t242 then ((field_Mul.f kj2 t221 t222 1).bind fun t243 => (if t243 = t222 then ((field_Add.f kj2 t221 t223 t224).bind fun t244 => ((field_Mul.f kj2 t221 t222 t244).bind fun t245 => ((field_Mul.f kj2 t221 t222 t223).bind fun t246 => ((field_Mul.f kj2 t221 t222 t224).bind fun t247 => ((field_Add.f kj2 t221 t246 t247).bind fun t248 => (privitylaw01_FieldAxioms.j1 kj2 t221 t222 x7_2 (t245 == t248))))))) else (privitylaw01_FieldAxioms.j1 kj2 t221 t222 x7_2 false))) else (privitylaw01_FieldAxioms.j1 kj2 t221 t222 x7_2 false)))) else (privitylaw01_FieldAxioms.j1 kj2 t221 t222 x7_2 false))) = some r := H
        have A26 := Aside0.mk A260
        clear A260
        replace H := Option.bind_eq_some_iff.mp H
        obtain ⟨t240, A270, H⟩ := H
        replace H : (if t238 = t240 then ((field_Mul.f kj2 t221 t222 t223).bind fun t241 => ((field_Mul.f kj2 t221 t223 t222).bind fun t242 => (if t241 = t242 then ((field_Mul.f kj2 t221 t222 1).bind fun t243 => (if t243 = t222 then ((field_Add.f kj2 t221 t223 t224).bind fun t244 => ((field_Mul.f kj2 t221 t222 t244).bind fun t245 => ((field_Mul.f kj2 t221 t222 t223).bind fun t246 => ((field_Mul.f kj2 t221 t222 t224).bind fun t247 => ((field_Add.f kj2 t221 t246 t247).bind fun t248 => (privitylaw01_FieldAxioms.j1 kj2 t221 t222 x7_2 (t245 == t248))))))) else (privitylaw01_FieldAxioms.j1 kj2 t221 t222 x7_2 false))) else (privitylaw01_FieldAxioms.j1 kj2 t221 t222 x7_2 false)))) else (privitylaw01_FieldAxioms.j1 kj2 t221 t222 x7_2 false)) = some r := H
        have A27 := Aside0.mk A270
        clear A270
        by_cases c28 : t238 = t240
        · rw [if_pos c28] at H
          have c28b0 : (t238 == t240) = true := beq_iff_eq.mpr c28
          have c28b1 : (t238 != t240) = false := bne_eq_false_iff_eq.mpr c28
          clear c28
          (first | rw [c28b0] | (simp only [i64_w, i32_w]; rw [c28b0]) | skip)
          replace H := Option.bind_eq_some_iff.mp H
          obtain ⟨t241, A290, H⟩ := H
          replace H : ((field_Mul.f kj2 t221 t223 t222).bind fun t242 => (if t241 = t242 then ((field_Mul.f kj2 t221 t222 1).bind fun t243 => (if t243 = t222 then ((field_Add.f kj2 t221 t223 t224).bind fun t244 => ((field_Mul.f kj2 t221 t222 t244).bind fun t245 => ((field_Mul.f kj2 t221 t222 t223).bind fun t246 => ((field_Mul.f kj2 t221 t222 t224).bind fun t247 => ((field_Add.f kj2 t221 t246 t247).bind fun t248 => (privitylaw01_FieldAxioms.j1 kj2 t221 t222 x7_2 (t245 == t248))))))) else (privitylaw01_FieldAxioms.j1 kj2 t221 t222 x7_2 false))) else (privitylaw01_FieldAxioms.j1 kj2 t221 t222 x7_2 false))) = some r := H
          have A29 := Aside0.mk A290
          clear A290
          replace H := Option.bind_eq_some_iff.mp H
          obtain ⟨t242, A300, H⟩ := H
          replace H : (if t241 = t242 then ((field_Mul.f kj2 t221 t222 1).bind fun t243 => (if t243 = t222 then ((field_Add.f kj2 t221 t223 t224).bind fun t244 => ((field_Mul.f kj2 t221 t222 t244).bind fun t245 => ((field_Mul.f kj2 t221 t222 t223).bind fun t246 => ((field_Mul.f kj2 t221 t222 t224).bind fun t247 => ((field_Add.f kj2 t221 t246 t247).bind fun t248 => (privitylaw01_FieldAxioms.j1 kj2 t221 t222 x7_2 (t245 == t248))))))) else (privitylaw01_FieldAxioms.j1 kj2 t221 t222 x7_2 false))) else (privitylaw01_FieldAxioms.j1 kj2 t221 t222 x7_2 false)) = some r := H
          have A30 := Aside0.mk A300
          clear A300
          by_cases c31 : t241 = t242
          · rw [if_pos c31] at H
            have c31b0 : (t241 == t242) = true := beq_iff_eq.mpr c31
            have c31b1 : (t241 != t242) = false := bne_eq_false_iff_eq.mpr c31
            clear c31
            replace H := Option.bind_eq_some_iff.mp H
            obtain ⟨t243, A320, H⟩ := H
            replace H : (if t243 = t222 then ((field_Add.f kj2 t221 t223 t224).bind fun t244 => ((field_Mul.f kj2 t221 t222 t244).bind fun t245 => ((field_Mul.f kj2 t221 t222 t223).bind fun t246 => ((field_Mul.f kj2 t221 t222 t224).bind fun t247 => ((field_Add.f kj2 t221 t246 t247).bind fun t248 => (privitylaw01_FieldAxioms.j1 kj2 t221 t222 x7_2 (t245 == t248))))))) else (privitylaw01_FieldAxioms.j1 kj2 t221 t222 x7_2 false)) = some r := H
            have A32 := Aside0.mk A320
            clear A320
            by_cases c33 : t243 = t222
            · rw [if_pos c33] at H
              have c33b0 : (t243 == t222) = true := beq_iff_eq.mpr c33
              have c33b1 : (t243 != t222) = false := bne_eq_false_iff_eq.mpr c33
              clear c33
              replace H := Option.bind_eq_some_iff.mp H
              obtain ⟨t244, A340, H⟩ := H
              replace H : ((field_Mul.f kj2 t221 t222 t244).bind fun t245 => ((field_Mul.f kj2 t221 t222 t223).bind fun t246 => ((field_Mul.f kj2 t221 t222 t224).bind fun t247 => ((field_Add.f kj2 t221 t246 t247).bind fun t248 => (privitylaw01_FieldAxioms.j1 kj2 t221 t222 x7_2 (t245 == t248)))))) = some r := H
              have A34 := Aside0.mk A340
              clear A340
              replace H := Option.bind_eq_some_iff.mp H
              obtain ⟨t245, A350, H⟩ := H
              replace H : ((field_Mul.f kj2 t221 t222 t223).bind fun t246 => ((field_Mul.f kj2 t221 t222 t224).bind fun t247 => ((field_Add.f kj2 t221 t246 t247).bind fun t248 => (privitylaw01_FieldAxioms.j1 kj2 t221 t222 x7_2 (t245 == t248))))) = some r := H
              have A35 := Aside0.mk A350
              clear A350
              replace H := Option.bind_eq_some_iff.mp H
              obtain ⟨t246, A360, H⟩ := H
              replace H : ((field_Mul.f kj2 t221 t222 t224).bind fun t247 => ((field_Add.f kj2 t221 t246 t247).bind fun t248 => (privitylaw01_FieldAxioms.j1 kj2 t221 t222 x7_2 (t245 == t248)))) = some r := H
              have A36 := Aside0.mk A360
              clear A360
              replace H := Option.bind_eq_some_iff.mp H
              obtain ⟨t247, A370, H⟩ := H
              replace H : ((field_Add.f kj2 t221 t246 t247).bind fun t248 => (privitylaw01_FieldAxioms.j1 kj2 t221 t222 x7_2 (t245 == t248))) = some r := H
              have A37 := Aside0.mk A370
              clear A370
              replace H := Option.bind_eq_some_iff.mp H
              obtain ⟨t248, A380, H⟩ := H
              replace H : (privitylaw01_FieldAxioms.j1 kj2 t221 t222 x7_2 (t245 == t248)) = some r := H
              have A38 := Aside0.mk A380
              clear A380
              have H' := Aside0.mk H
              clear H
              go_wp2_with (first | ((with_reducible refine gate_callee (f := 17) rfl ?_); refine goesL_ (some 77) rfl rfl Tryd.func17 (by kernel_rfl) rfl #[.int .u64 t221, .int .u64 t222, .int .u64 t223] rfl (by (try simp only [List.map_toArray, List.map_cons, List.map_nil]); first | done | rfl | (simp only [List.length_drop, List.length_take]; rfl)) ?_; (with_reducible refine (field_Mul.calls kj2 t221 t222 t223 t237 _ A24.out).mono ?_); rintro e w' ⟨rfl, ⟨nd, rfl⟩⟩; refine ⟨_, rfl, ?_⟩; (try clear A24)) | ((with_reducible refine gate_callee (f := 17) rfl ?_); refine goesL_ (some 79) rfl rfl Tryd.func17 (by kernel_rfl) rfl #[.int .u64 t221, .int .u64 t237, .int .u64 t224] rfl (by (try simp only [List.map_toArray, List.map_cons, List.map_nil]); first | done | rfl | (simp only [List.length_drop, List.length_take]; rfl)) ?_; (with_reducible refine (field_Mul.calls kj2 t221 t237 t224 t238 _ A25.out).mono ?_); rintro e w' ⟨rfl, ⟨nd, rfl⟩⟩; refine ⟨_, rfl, ?_⟩) | ((with_reducible refine gate_callee (f := 17) rfl ?_); refine goesL_ (some 85) rfl rfl Tryd.func17 (by kernel_rfl) rfl #[.int .u64 t221, .int .u64 t223, .int .u64 t224] rfl (by (try simp only [List.map_toArray, List.map_cons, List.map_nil]); first | done | rfl | (simp only [List.length_drop, List.length_take]; rfl)) ?_; (with_reducible refine (field_Mul.calls kj2 t221 t223 t224 t239 _ A26.out).mono ?_); rintro e w' ⟨rfl, ⟨nd, rfl⟩⟩; refine ⟨_, rfl, ?_⟩) | ((with_reducible refine gate_callee (f := 17) rfl ?_); refine goesL_ (some 86) rfl rfl Tryd.func17 (by kernel_rfl) rfl #[.int .u64 t221, .int .u64 t222, .int .u64 t239] rfl (by (try simp only [List.map_toArray, List.map_cons, List.map_nil]); first | done | rfl | (simp only [List.length_drop, List.length_take]; rfl)) ?_; (with_reducible refine (field_Mul.calls kj2 t221 t222 t239 t240 _ A27.out).mono ?_); rintro e w' ⟨rfl, ⟨nd, rfl⟩⟩; refine ⟨_, rfl, ?_⟩) | (go_at_call 17; (with_reducible refine (field_Mul.calls kj2 t221 t222 t223 t241 _ A29.out).mono ?_); rintro e w' ⟨rfl, ⟨nd, rfl⟩⟩; (try clear A29)) | (go_at_call 17; (with_reducible refine (field_Mul.calls kj2 t221 t223 t222 t242 _ A30.out).mono ?_); rintro e w' ⟨rfl, ⟨nd, rfl⟩⟩) | (go_at_call 17; (with_reducible refine (field_Mul.calls kj2 t221 t222 1 t243 _ A32.out).mono ?_); rintro e w' ⟨rfl, ⟨nd, rfl⟩⟩) | (go_at_call 21; (with_reducible refine (field_Add.calls kj2 t221 t223 t224 t244 _ A34.out).mono ?_); rintro e w' ⟨rfl, ⟨nd, rfl⟩⟩) | (go_at_call 17; (with_reducible refine (field_Mul.calls kj2 t221 t222 t244 t245 _ A35.out).mono ?_); rintro e w' ⟨rfl, ⟨nd, rfl⟩⟩) | (go_at_call 17; (with_reducible refine (field_Mul.calls kj2 t221 t222 t223 t246 _ A36.out).mono ?_); rintro e w' ⟨rfl, ⟨nd, rfl⟩⟩; (try clear A36)) | (go_at_call 17; (with_reducible refine (field_Mul.calls kj2 t221 t222 t224 t247 _ A37.out).mono ?_); rintro e w' ⟨rfl, ⟨nd, rfl⟩⟩) | (go_at_call 21; (with_reducible refine (field_Add.calls kj2 t221 t246 t247 t248 _ A38.out).mono ?_); rintro e w' ⟨rfl, ⟨nd, rfl⟩⟩))
              go_meet
              case rel => exact ⟨_, ((t245 == t248)), (by first | rfl | (simp; done) | (simp [*]; done)), H', ⟨by have := HJ2.out; first | omega | exact Nat.le_refl _⟩, ⟨by (with_reducible repeat (first | refine blk_drewN ?_ _ | refine blk_drew ?_ | refine blk_alloc ?_ _)); exact BK220.out⟩, ⟨by repeat (first | (with_reducible first | exact HB.out | apply below_alloc | apply pw_below_drewN | apply below_drew1 | refine below_set ?_ GE220.out) | exact HB.out)⟩⟩
            · rw [if_neg c33] at H
              have c33b0 : (t243 == t222) = false := beq_eq_false_iff_ne.mpr c33
              have c33b1 : (t243 != t222) = true := bne_iff_ne.mpr c33
              have H' := Aside0.mk H
              clear H
              go_wp2_with (first | ((with_reducible refine gate_callee (f := 17) rfl ?_); refine goesL_ (some 77) rfl rfl Tryd.func17 (by kernel_rfl) rfl #[.int .u64 t221, .int .u64 t222, .int .u64 t223] rfl (by (try simp only [List.map_toArray, List.map_cons, List.map_nil]); first | done | rfl | (simp only [List.length_drop, List.length_take]; rfl)) ?_; (with_reducible refine (field_Mul.calls kj2 t221 t222 t223 t237 _ A24.out).mono ?_); rintro e w' ⟨rfl, ⟨nd, rfl⟩⟩; refine ⟨_, rfl, ?_⟩; (try clear A24)) | ((with_reducible refine gate_callee (f := 17) rfl ?_); refine goesL_ (some 79) rfl rfl Tryd.func17 (by kernel_rfl) rfl #[.int .u64 t221, .int .u64 t237, .int .u64 t224] rfl (by (try simp only [List.map_toArray, List.map_cons, List.map_nil]); first | done | rfl | (simp only [List.length_drop, List.length_take]; rfl)) ?_; (with_reducible refine (field_Mul.calls kj2 t221 t237 t224 t238 _ A25.out).mono ?_); rintro e w' ⟨rfl, ⟨nd, rfl⟩⟩; refine ⟨_, rfl, ?_⟩) | ((with_reducible refine gate_callee (f := 17) rfl ?_); refine goesL_ (some 85) rfl rfl Tryd.func17 (by kernel_rfl) rfl #[.int .u64 t221, .int .u64 t223, .int .u64 t224] rfl (by (try simp only [List.map_toArray, List.map_cons, List.map_nil]); first | done | rfl | (simp only [List.length_drop, List.length_take]; rfl)) ?_; (with_reducible refine (field_Mul.calls kj2 t221 t223 t224 t239 _ A26.out).mono ?_); rintro e w' ⟨rfl, ⟨nd, rfl⟩⟩; refine ⟨_, rfl, ?_⟩) | ((with_reducible refine gate_callee (f := 17) rfl ?_); refine goesL_ (some 86) rfl rfl Tryd.func17 (by kernel_rfl) rfl #[.int .u64 t221, .int .u64 t222, .int .u64 t239] rfl (by (try simp only [List.map_toArray, List.map_cons, List.map_nil]); first | done | rfl | (simp only [List.length_drop, List.length_take]; rfl)) ?_; (with_reducible refine (field_Mul.calls kj2 t221 t222 t239 t240 _ A27.out).mono ?_); rintro e w' ⟨rfl, ⟨nd, rfl⟩⟩; refine ⟨_, rfl, ?_⟩) | (go_at_call 17; (with_reducible refine (field_Mul.calls kj2 t221 t222 t223 t241 _ A29.out).mono ?_); rintro e w' ⟨rfl, ⟨nd, rfl⟩⟩; (try clear A29)) | (go_at_call 17; (with_reducible refine (field_Mul.calls kj2 t221 t223 t222 t242 _ A30.out).mono ?_); rintro e w' ⟨rfl, ⟨nd, rfl⟩⟩) | (go_at_call 17; (with_reducible refine (field_Mul.calls kj2 t221 t222 1 t243 _ A32.out).mono ?_); rintro e w' ⟨rfl, ⟨nd, rfl⟩⟩))
              go_meet
              case rel => exact ⟨_, (false), (by first | rfl | (simp; done) | (simp [*]; done)), H', ⟨by have := HJ2.out; first | omega | exact Nat.le_refl _⟩, ⟨by (with_reducible repeat (first | refine blk_drewN ?_ _ | refine blk_drew ?_ | refine blk_alloc ?_ _)); exact BK220.out⟩, ⟨by repeat (first | (with_reducible first | exact HB.out | apply below_alloc | apply pw_below_drewN | apply below_drew1 | refine below_set ?_ GE220.out) | exact HB.out)⟩⟩
          · rw [if_neg c31] at H
            have c31b0 : (t241 == t242) = false := beq_eq_false_iff_ne.mpr c31
            have c31b1 : (t241 != t242) = true := bne_iff_ne.mpr c31
            have H' := Aside0.mk H
            clear H
            go_wp2_with (first | ((with_reducible refine gate_callee (f := 17) rfl ?_); refine goesL_ (some 77) rfl rfl Tryd.func17 (by kernel_rfl) rfl #[.int .u64 t221, .int .u64 t222, .int .u64 t223] rfl (by (try simp only [List.map_toArray, List.map_cons, List.map_nil]); first | done | rfl | (simp only [List.length_drop, List.length_take]; rfl)) ?_; (with_reducible refine (field_Mul.calls kj2 t221 t222 t223 t237 _ A24.out).mono ?_); rintro e w' ⟨rfl, ⟨nd, rfl⟩⟩; refine ⟨_, rfl, ?_⟩; (try clear A24)) | ((with_reducible refine gate_callee (f := 17) rfl ?_); refine goesL_ (some 79) rfl rfl Tryd.func17 (by kernel_rfl) rfl #[.int .u64 t221, .int .u64 t237, .int .u64 t224] rfl (by (try simp only [List.map_toArray, List.map_cons, List.map_nil]); first | done | rfl | (simp only [List.length_drop, List.length_take]; rfl)) ?_; (with_reducible refine (field_Mul.calls kj2 t221 t237 t224 t238 _ A25.out).mono ?_); rintro e w' ⟨rfl, ⟨nd, rfl⟩⟩; refine ⟨_, rfl, ?_⟩) | ((with_reducible refine gate_callee (f := 17) rfl ?_); refine goesL_ (some 85) rfl rfl Tryd.func17 (by kernel_rfl) rfl #[.int .u64 t221, .int .u64 t223, .int .u64 t224] rfl (by (try simp only [List.map_toArray, List.map_cons, List.map_nil]); first | done | rfl | (simp only [List.length_drop, List.length_take]; rfl)) ?_; (with_reducible refine (field_Mul.calls kj2 t221 t223 t224 t239 _ A26.out).mono ?_); rintro e w' ⟨rfl, ⟨nd, rfl⟩⟩; refine ⟨_, rfl, ?_⟩) | ((with_reducible refine gate_callee (f := 17) rfl ?_); refine goesL_ (some 86) rfl rfl Tryd.func17 (by kernel_rfl) rfl #[.int .u64 t221, .int .u64 t222, .int .u64 t239] rfl (by (try simp only [List.map_toArray, List.map_cons, List.map_nil]); first | done | rfl | (simp only [List.length_drop, List.length_take]; rfl)) ?_; (with_reducible refine (field_Mul.calls kj2 t221 t222 t239 t240 _ A27.out).mono ?_); rintro e w' ⟨rfl, ⟨nd, rfl⟩⟩; refine ⟨_, rfl, ?_⟩) | (go_at_call 17; (with_reducible refine (field_Mul.calls kj2 t221 t222 t223 t241 _ A29.out).mono ?_); rintro e w' ⟨rfl, ⟨nd, rfl⟩⟩; (try clear A29)) | (go_at_call 17; (with_reducible refine (field_Mul.calls kj2 t221 t223 t222 t242 _ A30.out).mono ?_); rintro e w' ⟨rfl, ⟨nd, rfl⟩⟩))
            go_meet
            case rel => exact ⟨_, (false), (by first | rfl | (simp; done) | (simp [*]; done)), H', ⟨by have := HJ2.out; first | omega | exact Nat.le_refl _⟩, ⟨by (with_reducible repeat (first | refine blk_drewN ?_ _ | refine blk_drew ?_ | refine blk_alloc ?_ _)); exact BK220.out⟩, ⟨by repeat (first | (with_reducible first | exact HB.out | apply below_alloc | apply pw_below_drewN | apply below_drew1 | refine below_set ?_ GE220.out) | exact HB.out)⟩⟩
        · rw [if_neg c28] at H
          have c28b0 : (t238 == t240) = false := beq_eq_false_iff_ne.mpr c28
          have c28b1 : (t238 != t240) = true := bne_iff_ne.mpr c28
          (first | rw [c28b0] | (simp only [i64_w, i32_w]; rw [c28b0]) | skip)
          have H' := Aside0.mk H
          clear H
          go_wp2_with (first | ((with_reducible refine gate_callee (f := 17) rfl ?_); refine goesL_ (some 77) rfl rfl Tryd.func17 (by kernel_rfl) rfl #[.int .u64 t221, .int .u64 t222, .int .u64 t223] rfl (by (try simp only [List.map_toArray, List.map_cons, List.map_nil]); first | done | rfl | (simp only [List.length_drop, List.length_take]; rfl)) ?_; (with_reducible refine (field_Mul.calls kj2 t221 t222 t223 t237 _ A24.out).mono ?_); rintro e w' ⟨rfl, ⟨nd, rfl⟩⟩; refine ⟨_, rfl, ?_⟩) | ((with_reducible refine gate_callee (f := 17) rfl ?_); refine goesL_ (some 79) rfl rfl Tryd.func17 (by kernel_rfl) rfl #[.int .u64 t221, .int .u64 t237, .int .u64 t224] rfl (by (try simp only [List.map_toArray, List.map_cons, List.map_nil]); first | done | rfl | (simp only [List.length_drop, List.length_take]; rfl)) ?_; (with_reducible refine (field_Mul.calls kj2 t221 t237 t224 t238 _ A25.out).mono ?_); rintro e w' ⟨rfl, ⟨nd, rfl⟩⟩; refine ⟨_, rfl, ?_⟩) | ((with_reducible refine gate_callee (f := 17) rfl ?_); refine goesL_ (some 85) rfl rfl Tryd.func17 (by kernel_rfl) rfl #[.int .u64 t221, .int .u64 t223, .int .u64 t224] rfl (by (try simp only [List.map_toArray, List.map_cons, List.map_nil]); first | done | rfl | (simp only [List.length_drop, List.length_take]; rfl)) ?_; (with_reducible refine (field_Mul.calls kj2 t221 t223 t224 t239 _ A26.out).mono ?_); rintro e w' ⟨rfl, ⟨nd, rfl⟩⟩; refine ⟨_, rfl, ?_⟩) | ((with_reducible refine gate_callee (f := 17) rfl ?_); refine goesL_ (some 86) rfl rfl Tryd.func17 (by kernel_rfl) rfl #[.int .u64 t221, .int .u64 t222, .int .u64 t239] rfl (by (try simp only [List.map_toArray, List.map_cons, List.map_nil]); first | done | rfl | (simp only [List.length_drop, List.length_take]; rfl)) ?_; (with_reducible refine (field_Mul.calls kj2 t221 t222 t239 t240 _ A27.out).mono ?_); rintro e w' ⟨rfl, ⟨nd, rfl⟩⟩; refine ⟨_, rfl, ?_⟩))
          go_meet
          case rel => exact ⟨_, (false), (by first | rfl | (simp; done) | (simp [*]; done)), H', ⟨by have := HJ2.out; first | omega | exact Nat.le_refl _⟩, ⟨by (with_reducible repeat (first | refine blk_drewN ?_ _ | refine blk_drew ?_ | refine blk_alloc ?_ _)); exact BK220.out⟩, ⟨by repeat (first | (with_reducible first | exact HB.out | apply below_alloc | apply pw_below_drewN | apply below_drew1 | refine below_set ?_ GE220.out) | exact HB.out)⟩⟩
      case rest =>
        clear HC23
        try clear c1
        try clear c2
        try clear p2
        try clear c3
        try clear c8
        try clear c11
        try clear c11b0
        try clear c11b1
        try clear c14
        try clear c14b0
        try clear c14b1
        try clear c15
        try clear c16
        try clear c16b0
        try clear c16b1
        try clear c17
        try clear c19
        try clear c19b0
        try clear c19b1
        try clear c21
        try clear c28
        try clear c28b0
        try clear c28b1
        try clear c31
        try clear c31b0
        try clear c31b1
        try clear c33
        try clear c33b0
        try clear c33b1
        try clear hcz5_0
        try clear hcz5_1
        try clear hcz5_2
        try clear hcz5_3
        try clear hfz5_0
        try clear hfz5_1
        try clear hfz5_2
        try clear hfz5_3
        try clear p2
        obtain ⟨kq, x8_22, rfl, HA, HJ22, BK220, HB⟩ := hcut
        cases kq with
        | zero => exact absurd HA.out (by simp [privitylaw01_FieldAxioms.j1])
        | succ kj22 =>
          have H := HA.out
          clear HA
          simp only [privitylaw01_FieldAxioms.j1] at H
          replace H := Option.bind_eq_some_iff.mp H
          obtain ⟨⟨t249, t250⟩, A390, H⟩ := H
          replace H : (if t222 = 0 then ((privitylaw01_awake.f kj22).bind fun t251 => (if t251 = true then (if x7_2 = true then (if x8_22 = true then (if t250 = 8 then (some (t249 == 0)) else (some false)) else (some false)) else (some false)) else (some false))) else ((privitylaw01_awake.f kj22).bind fun t252 => (if t252 = true then (if x7_2 = true then (if x8_22 = true then (if t250 = 0 then (if t249 < t221 then ((field_Mul.f kj22 t221 t222 t249).bind fun t253 => (some (t253 == 1))) else (some false)) else (some false)) else (some false)) else (some false)) else (some false)))) = some r := H
          have A39 := Aside0.mk A390
          clear A390
          by_cases c40 : t222 = 0
          · rw [if_pos c40] at H
            have c40b0 : (t222 == 0) = true := beq_iff_eq.mpr c40
            have c40b1 : (t222 != 0) = false := bne_eq_false_iff_eq.mpr c40
            clear c40
            replace H := Option.bind_eq_some_iff.mp H
            obtain ⟨t251, A410, H⟩ := H
            replace H : (if t251 = true then (if x7_2 = true then (if x8_22 = true then (if t250 = 8 then (some (t249 == 0)) else (some false)) else (some false)) else (some false)) else (some false)) = some r := H
            have A41 := Aside0.mk A410
            clear A410
            by_cases c42 : t251 = true
            · subst c42
              have H1 : (if x7_2 = true then (if x8_22 = true then (if t250 = 8 then (some (t249 == 0)) else (some false)) else (some false)) else (some false)) = some r := by rw [if_pos rfl] at H; exact H
              clear H
              have H := H1
              clear H1
              by_cases c43 : x7_2 = true
              · subst c43
                have H1 : (if x8_22 = true then (if t250 = 8 then (some (t249 == 0)) else (some false)) else (some false)) = some r := by rw [if_pos rfl] at H; exact H
                clear H
                have H := H1
                clear H1
                by_cases c44 : x8_22 = true
                · subst c44
                  have H1 : (if t250 = 8 then (some (t249 == 0)) else (some false)) = some r := by rw [if_pos rfl] at H; exact H
                  clear H
                  have H := H1
                  clear H1
                  by_cases c45 : t250 = 8
                  · rw [if_pos c45] at H
                    have c45b0 : (t250 == 8) = true := beq_iff_eq.mpr c45
                    have c45b1 : (t250 != 8) = false := bne_eq_false_iff_eq.mpr c45
                    clear c45
                    obtain rfl := Option.some.inj H
                    go_wp2_with (first | ((with_reducible refine gate_callee (f := 23) rfl ?_); refine goesL_ (some 129) rfl rfl Tryd.func23 (by kernel_rfl) rfl #[.int .u64 t221, .int .u64 t222] rfl (by (try simp only [List.map_toArray, List.map_cons, List.map_nil]); first | done | rfl | (simp only [List.length_drop, List.length_take]; rfl)) ?_; (with_reducible refine (field_Inverse.calls kj22 t221 t222 t249 t250 _ A39.out).mono ?_); rintro e w' ⟨rfl, ⟨nd, rfl⟩⟩; refine ⟨_, rfl, ?_⟩) | ((with_reducible refine gate_callee (f := 10) rfl ?_); refine goesL_ (some 134) rfl rfl Tryd.func10 (by kernel_rfl) rfl #[] rfl (by (try simp only [List.map_toArray, List.map_cons, List.map_nil]); first | done | rfl | (simp only [List.length_drop, List.length_take]; rfl)) ?_; (with_reducible refine (privitylaw01_awake.calls kj22  true _ ?side1 A41.out).mono ?_); (case side1 => first | exact hG | (refine Gl.below hG ?_; (repeat (first | (with_reducible first | exact HB.out | apply below_alloc | apply pw_below_drewN | apply below_drew1 | refine below_set ?_ GE220.out) | exact HB.out)); done) | (refine Gl.drawn hG ?_; (repeat (first | exact Drawn0.refl _ | apply Drawn0.step)); done)); rintro e w46 ⟨rfl, hb⟩; refine ⟨_, rfl, ?_⟩; have n0_ := Aside0.mk (blk_below (g := gb220) (o := .cells #[.int .u64 a0_0, .int .u64 a0_1, .int .u64 a0_2, .int .u64 a0_3] 27 (0, 0)) (by (with_reducible repeat (first | refine blk_drewN ?_ _ | refine blk_drew ?_ | refine blk_alloc ?_ _)); exact BK220.out) hb); have n1_ := Aside0.mk (below_step (by repeat (first | (with_reducible first | exact HB.out | apply below_alloc | apply pw_below_drewN | apply below_drew1 | refine below_set ?_ GE220.out) | exact HB.out)) hb); clear BK220; clear HB; have BK220 := n0_; have HB := n1_; clear n0_ n1_; (try clear hb); (try clear hb2); (try clear hk); (try clear hi)))
                    go_ret
                    exact ⟨by first | rfl | (simp [errW_none, errW_some] <;> rfl) | (simp [*, errW_none, errW_some] <;> rfl), by repeat (first | (with_reducible first | exact HB.out | apply below_alloc | apply pw_below_drewN | apply below_drew1 | refine below_set ?_ GE220.out) | exact HB.out)⟩
                  · rw [if_neg c45] at H
                    have c45b0 : (t250 == 8) = false := beq_eq_false_iff_ne.mpr c45
                    have c45b1 : (t250 != 8) = true := bne_iff_ne.mpr c45
                    obtain rfl := Option.some.inj H
                    go_wp2_with (first | ((with_reducible refine gate_callee (f := 23) rfl ?_); refine goesL_ (some 129) rfl rfl Tryd.func23 (by kernel_rfl) rfl #[.int .u64 t221, .int .u64 t222] rfl (by (try simp only [List.map_toArray, List.map_cons, List.map_nil]); first | done | rfl | (simp only [List.length_drop, List.length_take]; rfl)) ?_; (with_reducible refine (field_Inverse.calls kj22 t221 t222 t249 t250 _ A39.out).mono ?_); rintro e w' ⟨rfl, ⟨nd, rfl⟩⟩; refine ⟨_, rfl, ?_⟩) | ((with_reducible refine gate_callee (f := 10) rfl ?_); refine goesL_ (some 134) rfl rfl Tryd.func10 (by kernel_rfl) rfl #[] rfl (by (try simp only [List.map_toArray, List.map_cons, List.map_nil]); first | done | rfl | (simp only [List.length_drop, List.length_take]; rfl)) ?_; (with_reducible refine (privitylaw01_awake.calls kj22  true _ ?side1 A41.out).mono ?_); (case side1 => first | exact hG | (refine Gl.below hG ?_; (repeat (first | (with_reducible first | exact HB.out | apply below_alloc | apply pw_below_drewN | apply below_drew1 | refine below_set ?_ GE220.out) | exact HB.out)); done) | (refine Gl.drawn hG ?_; (repeat (first | exact Drawn0.refl _ | apply Drawn0.step)); done)); rintro e w47 ⟨rfl, hb⟩; refine ⟨_, rfl, ?_⟩; have n0_ := Aside0.mk (blk_below (g := gb220) (o := .cells #[.int .u64 a0_0, .int .u64 a0_1, .int .u64 a0_2, .int .u64 a0_3] 27 (0, 0)) (by (with_reducible repeat (first | refine blk_drewN ?_ _ | refine blk_drew ?_ | refine blk_alloc ?_ _)); exact BK220.out) hb); have n1_ := Aside0.mk (below_step (by repeat (first | (with_reducible first | exact HB.out | apply below_alloc | apply pw_below_drewN | apply below_drew1 | refine below_set ?_ GE220.out) | exact HB.out)) hb); clear BK220; clear HB; have BK220 := n0_; have HB := n1_; clear n0_ n1_; (try clear hb); (try clear hb2); (try clear hk); (try clear hi)))
                    go_ret
                    exact ⟨by first | rfl | (simp [errW_none, errW_some] <;> rfl) | (simp [*, errW_none, errW_some] <;> rfl), by repeat (first | (with_reducible first | exact HB.out | apply below_alloc | apply pw_below_drewN | apply below_drew1 | refine below_set ?_ GE220.out) | exact HB.out)⟩
                · replace c44 := Bool.eq_false_iff.mpr c44
                  subst c44
                  have H1 : (some false) = some r := by rw [if_neg (show ¬ (false = true) by decide)] at H; exact H
                  clear H
                  have H := H1
                  clear H1
                  obtain rfl := Option.some.inj H
                  go_wp2_with (first | ((with_reducible refine gate_callee (f := 23) rfl ?_); refine goesL_ (some 129) rfl rfl Tryd.func23 (by kernel_rfl) rfl #[.int .u64 t221, .int .u64 t222] rfl (by (try simp only [List.map_toArray, List.map_cons, List.map_nil]); first | done | rfl | (simp only [List.length_drop, List.length_take]; rfl)) ?_; (with_reducible refine (field_Inverse.calls kj22 t221 t222 t249 t250 _ A39.out).mono ?_); rintro e w' ⟨rfl, ⟨nd, rfl⟩⟩; refine ⟨_, rfl, ?_⟩) | ((with_reducible refine gate_callee (f := 10) rfl ?_); refine goesL_ (some 134) rfl rfl Tryd.func10 (by kernel_rfl) rfl #[] rfl (by (try simp only [List.map_toArray, List.map_cons, List.map_nil]); first | done | rfl | (simp only [List.length_drop, List.length_take]; rfl)) ?_; (with_reducible refine (privitylaw01_awake.calls kj22  true _ ?side1 A41.out).mono ?_); (case side1 => first | exact hG | (refine Gl.below hG ?_; (repeat (first | (with_reducible first | exact HB.out | apply below_alloc | apply pw_below_drewN | apply below_drew1 | refine below_set ?_ GE220.out) | exact HB.out)); done) | (refine Gl.drawn hG ?_; (repeat (first | exact Drawn0.refl _ | apply Drawn0.step)); done)); rintro e w48 ⟨rfl, hb⟩; refine ⟨_, rfl, ?_⟩; have n0_ := Aside0.mk (blk_below (g := gb220) (o := .cells #[.int .u64 a0_0, .int .u64 a0_1, .int .u64 a0_2, .int .u64 a0_3] 27 (0, 0)) (by (with_reducible repeat (first | refine blk_drewN ?_ _ | refine blk_drew ?_ | refine blk_alloc ?_ _)); exact BK220.out) hb); have n1_ := Aside0.mk (below_step (by repeat (first | (with_reducible first | exact HB.out | apply below_alloc | apply pw_below_drewN | apply below_drew1 | refine below_set ?_ GE220.out) | exact HB.out)) hb); clear BK220; clear HB; have BK220 := n0_; have HB := n1_; clear n0_ n1_; (try clear hb); (try clear hb2); (try clear hk); (try clear hi)))
                  go_ret
                  exact ⟨by first | rfl | (simp [errW_none, errW_some] <;> rfl) | (simp [*, errW_none, errW_some] <;> rfl), by repeat (first | (with_reducible first | exact HB.out | apply below_alloc | apply pw_below_drewN | apply below_drew1 | refine below_set ?_ GE220.out) | exact HB.out)⟩
              · replace c43 := Bool.eq_false_iff.mpr c43
                subst c43
                have H1 : (some false) = some r := by rw [if_neg (show ¬ (false = true) by decide)] at H; exact H
                clear H
                have H := H1
                clear H1
                obtain rfl := Option.some.inj H
                go_wp2_with (first | ((with_reducible refine gate_callee (f := 23) rfl ?_); refine goesL_ (some 129) rfl rfl Tryd.func23 (by kernel_rfl) rfl #[.int .u64 t221, .int .u64 t222] rfl (by (try simp only [List.map_toArray, List.map_cons, List.map_nil]); first | done | rfl | (simp only [List.length_drop, List.length_take]; rfl)) ?_; (with_reducible refine (field_Inverse.calls kj22 t221 t222 t249 t250 _ A39.out).mono ?_); rintro e w' ⟨rfl, ⟨nd, rfl⟩⟩; refine ⟨_, rfl, ?_⟩) | ((with_reducible refine gate_callee (f := 10) rfl ?_); refine goesL_ (some 134) rfl rfl Tryd.func10 (by kernel_rfl) rfl #[] rfl (by (try simp only [List.map_toArray, List.map_cons, List.map_nil]); first | done | rfl | (simp only [List.length_drop, List.length_take]; rfl)) ?_; (with_reducible refine (privitylaw01_awake.calls kj22  true _ ?side1 A41.out).mono ?_); (case side1 => first | exact hG | (refine Gl.below hG ?_; (repeat (first | (with_reducible first | exact HB.out | apply below_alloc | apply pw_below_drewN | apply below_drew1 | refine below_set ?_ GE220.out) | exact HB.out)); done) | (refine Gl.drawn hG ?_; (repeat (first | exact Drawn0.refl _ | apply Drawn0.step)); done)); rintro e w49 ⟨rfl, hb⟩; refine ⟨_, rfl, ?_⟩; have n0_ := Aside0.mk (blk_below (g := gb220) (o := .cells #[.int .u64 a0_0, .int .u64 a0_1, .int .u64 a0_2, .int .u64 a0_3] 27 (0, 0)) (by (with_reducible repeat (first | refine blk_drewN ?_ _ | refine blk_drew ?_ | refine blk_alloc ?_ _)); exact BK220.out) hb); have n1_ := Aside0.mk (below_step (by repeat (first | (with_reducible first | exact HB.out | apply below_alloc | apply pw_below_drewN | apply below_drew1 | refine below_set ?_ GE220.out) | exact HB.out)) hb); clear BK220; clear HB; have BK220 := n0_; have HB := n1_; clear n0_ n1_; (try clear hb); (try clear hb2); (try clear hk); (try clear hi)))
                go_ret
                exact ⟨by first | rfl | (simp [errW_none, errW_some] <;> rfl) | (simp [*, errW_none, errW_some] <;> rfl), by repeat (first | (with_reducible first | exact HB.out | apply below_alloc | apply pw_below_drewN | apply below_drew1 | refine below_set ?_ GE220.out) | exact HB.out)⟩
            · replace c42 := Bool.eq_false_iff.mpr c42
              subst c42
              have H1 : (some false) = some r := by rw [if_neg (show ¬ (false = true) by decide)] at H; exact H
              clear H
              have H := H1
              clear H1
              obtain rfl := Option.some.inj H
              go_wp2_with (first | ((with_reducible refine gate_callee (f := 23) rfl ?_); refine goesL_ (some 129) rfl rfl Tryd.func23 (by kernel_rfl) rfl #[.int .u64 t221, .int .u64 t222] rfl (by (try simp only [List.map_toArray, List.map_cons, List.map_nil]); first | done | rfl | (simp only [List.length_drop, List.length_take]; rfl)) ?_; (with_reducible refine (field_Inverse.calls kj22 t221 t222 t249 t250 _ A39.out).mono ?_); rintro e w' ⟨rfl, ⟨nd, rfl⟩⟩; refine ⟨_, rfl, ?_⟩) | ((with_reducible refine gate_callee (f := 10) rfl ?_); refine goesL_ (some 134) rfl rfl Tryd.func10 (by kernel_rfl) rfl #[] rfl (by (try simp only [List.map_toArray, List.map_cons, List.map_nil]); first | done | rfl | (simp only [List.length_drop, List.length_take]; rfl)) ?_; (with_reducible refine (privitylaw01_awake.calls kj22  false _ ?side1 A41.out).mono ?_); (case side1 => first | exact hG | (refine Gl.below hG ?_; (repeat (first | (with_reducible first | exact HB.out | apply below_alloc | apply pw_below_drewN | apply below_drew1 | refine below_set ?_ GE220.out) | exact HB.out)); done) | (refine Gl.drawn hG ?_; (repeat (first | exact Drawn0.refl _ | apply Drawn0.step)); done)); rintro e w50 ⟨rfl, hb⟩; refine ⟨_, rfl, ?_⟩; have n0_ := Aside0.mk (blk_below (g := gb220) (o := .cells #[.int .u64 a0_0, .int .u64 a0_1, .int .u64 a0_2, .int .u64 a0_3] 27 (0, 0)) (by (with_reducible repeat (first | refine blk_drewN ?_ _ | refine blk_drew ?_ | refine blk_alloc ?_ _)); exact BK220.out) hb); have n1_ := Aside0.mk (below_step (by repeat (first | (with_reducible first | exact HB.out | apply below_alloc | apply pw_below_drewN | apply below_drew1 | refine below_set ?_ GE220.out) | exact HB.out)) hb); clear BK220; clear HB; have BK220 := n0_; have HB := n1_; clear n0_ n1_; (try clear hb); (try clear hb2); (try clear hk); (try clear hi)))
              go_ret
              exact ⟨by first | rfl | (simp [errW_none, errW_some] <;> rfl) | (simp [*, errW_none, errW_some] <;> rfl), by repeat (first | (with_reducible first | exact HB.out | apply below_alloc | apply pw_below_drewN | apply below_drew1 | refine below_set ?_ GE220.out) | exact HB.out)⟩
          · rw [if_neg c40] at H
            have c40b0 : (t222 == 0) = false := beq_eq_false_iff_ne.mpr c40
            have c40b1 : (t222 != 0) = true := bne_iff_ne.mpr c40
            replace H := Option.bind_eq_some_iff.mp H
            obtain ⟨t252, A510, H⟩ := H
            replace H : (if t252 = true then (if x7_2 = true then (if x8_22 = true then (if t250 = 0 then (if t249 < t221 then ((field_Mul.f kj22 t221 t222 t249).bind fun t253 => (some (t253 == 1))) else (some false)) else (some false)) else (some false)) else (some false)) else (some false)) = some r := H
            have A51 := Aside0.mk A510
            clear A510
            by_cases c52 : t252 = true
            · subst c52
              have H1 : (if x7_2 = true then (if x8_22 = true then (if t250 = 0 then (if t249 < t221 then ((field_Mul.f kj22 t221 t222 t249).bind fun t253 => (some (t253 == 1))) else (some false)) else (some false)) else (some false)) else (some false)) = some r := by rw [if_pos rfl] at H; exact H
              clear H
              have H := H1
              clear H1
              by_cases c53 : x7_2 = true
              · subst c53
                have H1 : (if x8_22 = true then (if t250 = 0 then (if t249 < t221 then ((field_Mul.f kj22 t221 t222 t249).bind fun t253 => (some (t253 == 1))) else (some false)) else (some false)) else (some false)) = some r := by rw [if_pos rfl] at H; exact H
                clear H
                have H := H1
                clear H1
                by_cases c54 : x8_22 = true
                · subst c54
                  have H1 : (if t250 = 0 then (if t249 < t221 then ((field_Mul.f kj22 t221 t222 t249).bind fun t253 => (some (t253 == 1))) else (some false)) else (some false)) = some r := by rw [if_pos rfl] at H; exact H
                  clear H
                  have H := H1
                  clear H1
                  by_cases c55 : t250 = 0
                  · rw [if_pos c55] at H
                    have c55b0 : (t250 == 0) = true := beq_iff_eq.mpr c55
                    have c55b1 : (t250 != 0) = false := bne_eq_false_iff_eq.mpr c55
                    clear c55
                    by_cases c56 : t249 < t221
                    · rw [if_pos c56] at H
                      have c56b0 : decide (t249 < t221) = true := decide_eq_true c56
                      clear c56
                      replace H := Option.bind_eq_some_iff.mp H
                      obtain ⟨t253, A570, H⟩ := H
                      replace H : (some (t253 == 1)) = some r := H
                      have A57 := Aside0.mk A570
                      clear A570
                      obtain rfl := Option.some.inj H
                      go_wp2_with (first | ((with_reducible refine gate_callee (f := 23) rfl ?_); refine goesL_ (some 129) rfl rfl Tryd.func23 (by kernel_rfl) rfl #[.int .u64 t221, .int .u64 t222] rfl (by (try simp only [List.map_toArray, List.map_cons, List.map_nil]); first | done | rfl | (simp only [List.length_drop, List.length_take]; rfl)) ?_; (with_reducible refine (field_Inverse.calls kj22 t221 t222 t249 t250 _ A39.out).mono ?_); rintro e w' ⟨rfl, ⟨nd, rfl⟩⟩; refine ⟨_, rfl, ?_⟩) | ((with_reducible refine gate_callee (f := 10) rfl ?_); refine goesL_ (some 149) rfl rfl Tryd.func10 (by kernel_rfl) rfl #[] rfl (by (try simp only [List.map_toArray, List.map_cons, List.map_nil]); first | done | rfl | (simp only [List.length_drop, List.length_take]; rfl)) ?_; (with_reducible refine (privitylaw01_awake.calls kj22  true _ ?side1 A51.out).mono ?_); (case side1 => first | exact hG | (refine Gl.below hG ?_; (repeat (first | (with_reducible first | exact HB.out | apply below_alloc | apply pw_below_drewN | apply below_drew1 | refine below_set ?_ GE220.out) | exact HB.out)); done) | (refine Gl.drawn hG ?_; (repeat (first | exact Drawn0.refl _ | apply Drawn0.step)); done)); rintro e w58 ⟨rfl, hb⟩; refine ⟨_, rfl, ?_⟩; have n0_ := Aside0.mk (blk_below (g := gb220) (o := .cells #[.int .u64 a0_0, .int .u64 a0_1, .int .u64 a0_2, .int .u64 a0_3] 27 (0, 0)) (by (with_reducible repeat (first | refine blk_drewN ?_ _ | refine blk_drew ?_ | refine blk_alloc ?_ _)); exact BK220.out) hb); have n1_ := Aside0.mk (below_step (by repeat (first | (with_reducible first | exact HB.out | apply below_alloc | apply pw_below_drewN | apply below_drew1 | refine below_set ?_ GE220.out) | exact HB.out)) hb); clear BK220; clear HB; have BK220 := n0_; have HB := n1_; clear n0_ n1_; (try clear hb); (try clear hb2); (try clear hk); (try clear hi)) | (go_at_call 17; (with_reducible refine (field_Mul.calls kj22 t221 t222 t249 t253 _ A57.out).mono ?_); rintro e w' ⟨rfl, ⟨nd, rfl⟩⟩))
                      go_ret
                      exact ⟨by first | rfl | (simp [errW_none, errW_some] <;> rfl) | (simp [*, errW_none, errW_some] <;> rfl), by repeat (first | (with_reducible first | exact HB.out | apply below_alloc | apply pw_below_drewN | apply below_drew1 | refine below_set ?_ GE220.out) | exact HB.out)⟩
                    · rw [if_neg c56] at H
                      have c56b0 : decide (t249 < t221) = false := decide_eq_false c56
                      clear c56
                      obtain rfl := Option.some.inj H
                      go_wp2_with (first | ((with_reducible refine gate_callee (f := 23) rfl ?_); refine goesL_ (some 129) rfl rfl Tryd.func23 (by kernel_rfl) rfl #[.int .u64 t221, .int .u64 t222] rfl (by (try simp only [List.map_toArray, List.map_cons, List.map_nil]); first | done | rfl | (simp only [List.length_drop, List.length_take]; rfl)) ?_; (with_reducible refine (field_Inverse.calls kj22 t221 t222 t249 t250 _ A39.out).mono ?_); rintro e w' ⟨rfl, ⟨nd, rfl⟩⟩; refine ⟨_, rfl, ?_⟩) | ((with_reducible refine gate_callee (f := 10) rfl ?_); refine goesL_ (some 149) rfl rfl Tryd.func10 (by kernel_rfl) rfl #[] rfl (by (try simp only [List.map_toArray, List.map_cons, List.map_nil]); first | done | rfl | (simp only [List.length_drop, List.length_take]; rfl)) ?_; (with_reducible refine (privitylaw01_awake.calls kj22  true _ ?side1 A51.out).mono ?_); (case side1 => first | exact hG | (refine Gl.below hG ?_; (repeat (first | (with_reducible first | exact HB.out | apply below_alloc | apply pw_below_drewN | apply below_drew1 | refine below_set ?_ GE220.out) | exact HB.out)); done) | (refine Gl.drawn hG ?_; (repeat (first | exact Drawn0.refl _ | apply Drawn0.step)); done)); rintro e w59 ⟨rfl, hb⟩; refine ⟨_, rfl, ?_⟩; have n0_ := Aside0.mk (blk_below (g := gb220) (o := .cells #[.int .u64 a0_0, .int .u64 a0_1, .int .u64 a0_2, .int .u64 a0_3] 27 (0, 0)) (by (with_reducible repeat (first | refine blk_drewN ?_ _ | refine blk_drew ?_ | refine blk_alloc ?_ _)); exact BK220.out) hb); have n1_ := Aside0.mk (below_step (by repeat (first | (with_reducible first | exact HB.out | apply below_alloc | apply pw_below_drewN | apply below_drew1 | refine below_set ?_ GE220.out) | exact HB.out)) hb); clear BK220; clear HB; have BK220 := n0_; have HB := n1_; clear n0_ n1_; (try clear hb); (try clear hb2); (try clear hk); (try clear hi)))
                      go_ret
                      exact ⟨by first | rfl | (simp [errW_none, errW_some] <;> rfl) | (simp [*, errW_none, errW_some] <;> rfl), by repeat (first | (with_reducible first | exact HB.out | apply below_alloc | apply pw_below_drewN | apply below_drew1 | refine below_set ?_ GE220.out) | exact HB.out)⟩
                  · rw [if_neg c55] at H
                    have c55b0 : (t250 == 0) = false := beq_eq_false_iff_ne.mpr c55
                    have c55b1 : (t250 != 0) = true := bne_iff_ne.mpr c55
                    obtain rfl := Option.some.inj H
                    go_wp2_with (first | ((with_reducible refine gate_callee (f := 23) rfl ?_); refine goesL_ (some 129) rfl rfl Tryd.func23 (by kernel_rfl) rfl #[.int .u64 t221, .int .u64 t222] rfl (by (try simp only [List.map_toArray, List.map_cons, List.map_nil]); first | done | rfl | (simp only [List.length_drop, List.length_take]; rfl)) ?_; (with_reducible refine (field_Inverse.calls kj22 t221 t222 t249 t250 _ A39.out).mono ?_); rintro e w' ⟨rfl, ⟨nd, rfl⟩⟩; refine ⟨_, rfl, ?_⟩) | ((with_reducible refine gate_callee (f := 10) rfl ?_); refine goesL_ (some 149) rfl rfl Tryd.func10 (by kernel_rfl) rfl #[] rfl (by (try simp only [List.map_toArray, List.map_cons, List.map_nil]); first | done | rfl | (simp only [List.length_drop, List.length_take]; rfl)) ?_; (with_reducible refine (privitylaw01_awake.calls kj22  true _ ?side1 A51.out).mono ?_); (case side1 => first | exact hG | (refine Gl.below hG ?_; (repeat (first | (with_reducible first | exact HB.out | apply below_alloc | apply pw_below_drewN | apply below_drew1 | refine below_set ?_ GE220.out) | exact HB.out)); done) | (refine Gl.drawn hG ?_; (repeat (first | exact Drawn0.refl _ | apply Drawn0.step)); done)); rintro e w60 ⟨rfl, hb⟩; refine ⟨_, rfl, ?_⟩; have n0_ := Aside0.mk (blk_below (g := gb220) (o := .cells #[.int .u64 a0_0, .int .u64 a0_1, .int .u64 a0_2, .int .u64 a0_3] 27 (0, 0)) (by (with_reducible repeat (first | refine blk_drewN ?_ _ | refine blk_drew ?_ | refine blk_alloc ?_ _)); exact BK220.out) hb); have n1_ := Aside0.mk (below_step (by repeat (first | (with_reducible first | exact HB.out | apply below_alloc | apply pw_below_drewN | apply below_drew1 | refine below_set ?_ GE220.out) | exact HB.out)) hb); clear BK220; clear HB; have BK220 := n0_; have HB := n1_; clear n0_ n1_; (try clear hb); (try clear hb2); (try clear hk); (try clear hi)))
                    go_ret
                    exact ⟨by first | rfl | (simp [errW_none, errW_some] <;> rfl) | (simp [*, errW_none, errW_some] <;> rfl), by repeat (first | (with_reducible first | exact HB.out | apply below_alloc | apply pw_below_drewN | apply below_drew1 | refine below_set ?_ GE220.out) | exact HB.out)⟩
                · replace c54 := Bool.eq_false_iff.mpr c54
                  subst c54
                  have H1 : (some false) = some r := by rw [if_neg (show ¬ (false = true) by decide)] at H; exact H
                  clear H
                  have H := H1
                  clear H1
                  obtain rfl := Option.some.inj H
                  go_wp2_with (first | ((with_reducible refine gate_callee (f := 23) rfl ?_); refine goesL_ (some 129) rfl rfl Tryd.func23 (by kernel_rfl) rfl #[.int .u64 t221, .int .u64 t222] rfl (by (try simp only [List.map_toArray, List.map_cons, List.map_nil]); first | done | rfl | (simp only [List.length_drop, List.length_take]; rfl)) ?_; (with_reducible refine (field_Inverse.calls kj22 t221 t222 t249 t250 _ A39.out).mono ?_); rintro e w' ⟨rfl, ⟨nd, rfl⟩⟩; refine ⟨_, rfl, ?_⟩) | ((with_reducible refine gate_callee (f := 10) rfl ?_); refine goesL_ (some 149) rfl rfl Tryd.func10 (by kernel_rfl) rfl #[] rfl (by (try simp only [List.map_toArray, List.map_cons, List.map_nil]); first | done | rfl | (simp only [List.length_drop, List.length_take]; rfl)) ?_; (with_reducible refine (privitylaw01_awake.calls kj22  true _ ?side1 A51.out).mono ?_); (case side1 => first | exact hG | (refine Gl.below hG ?_; (repeat (first | (with_reducible first | exact HB.out | apply below_alloc | apply pw_below_drewN | apply below_drew1 | refine below_set ?_ GE220.out) | exact HB.out)); done) | (refine Gl.drawn hG ?_; (repeat (first | exact Drawn0.refl _ | apply Drawn0.step)); done)); rintro e w61 ⟨rfl, hb⟩; refine ⟨_, rfl, ?_⟩; have n0_ := Aside0.mk (blk_below (g := gb220) (o := .cells #[.int .u64 a0_0, .int .u64 a0_1, .int .u64 a0_2, .int .u64 a0_3] 27 (0, 0)) (by (with_reducible repeat (first | refine blk_drewN ?_ _ | refine blk_drew ?_ | refine blk_alloc ?_ _)); exact BK220.out) hb); have n1_ := Aside0.mk (below_step (by repeat (first | (with_reducible first | exact HB.out | apply below_alloc | apply pw_below_drewN | apply below_drew1 | refine below_set ?_ GE220.out) | exact HB.out)) hb); clear BK220; clear HB; have BK220 := n0_; have HB := n1_; clear n0_ n1_; (try clear hb); (try clear hb2); (try clear hk); (try clear hi)))
                  go_ret
                  exact ⟨by first | rfl | (simp [errW_none, errW_some] <;> rfl) | (simp [*, errW_none, errW_some] <;> rfl), by repeat (first | (with_reducible first | exact HB.out | apply below_alloc | apply pw_below_drewN | apply below_drew1 | refine below_set ?_ GE220.out) | exact HB.out)⟩
              · replace c53 := Bool.eq_false_iff.mpr c53
                subst c53
                have H1 : (some false) = some r := by rw [if_neg (show ¬ (false = true) by decide)] at H; exact H
                clear H
                have H := H1
                clear H1
                obtain rfl := Option.some.inj H
                go_wp2_with (first | ((with_reducible refine gate_callee (f := 23) rfl ?_); refine goesL_ (some 129) rfl rfl Tryd.func23 (by kernel_rfl) rfl #[.int .u64 t221, .int .u64 t222] rfl (by (try simp only [List.map_toArray, List.map_cons, List.map_nil]); first | done | rfl | (simp only [List.length_drop, List.length_take]; rfl)) ?_; (with_reducible refine (field_Inverse.calls kj22 t221 t222 t249 t250 _ A39.out).mono ?_); rintro e w' ⟨rfl, ⟨nd, rfl⟩⟩; refine ⟨_, rfl, ?_⟩) | ((with_reducible refine gate_callee (f := 10) rfl ?_); refine goesL_ (some 149) rfl rfl Tryd.func10 (by kernel_rfl) rfl #[] rfl (by (try simp only [List.map_toArray, List.map_cons, List.map_nil]); first | done | rfl | (simp only [List.length_drop, List.length_take]; rfl)) ?_; (with_reducible refine (privitylaw01_awake.calls kj22  true _ ?side1 A51.out).mono ?_); (case side1 => first | exact hG | (refine Gl.below hG ?_; (repeat (first | (with_reducible first | exact HB.out | apply below_alloc | apply pw_below_drewN | apply below_drew1 | refine below_set ?_ GE220.out) | exact HB.out)); done) | (refine Gl.drawn hG ?_; (repeat (first | exact Drawn0.refl _ | apply Drawn0.step)); done)); rintro e w62 ⟨rfl, hb⟩; refine ⟨_, rfl, ?_⟩; have n0_ := Aside0.mk (blk_below (g := gb220) (o := .cells #[.int .u64 a0_0, .int .u64 a0_1, .int .u64 a0_2, .int .u64 a0_3] 27 (0, 0)) (by (with_reducible repeat (first | refine blk_drewN ?_ _ | refine blk_drew ?_ | refine blk_alloc ?_ _)); exact BK220.out) hb); have n1_ := Aside0.mk (below_step (by repeat (first | (with_reducible first | exact HB.out | apply below_alloc | apply pw_below_drewN | apply below_drew1 | refine below_set ?_ GE220.out) | exact HB.out)) hb); clear BK220; clear HB; have BK220 := n0_; have HB := n1_; clear n0_ n1_; (try clear hb); (try clear hb2); (try clear hk); (try clear hi)))
                go_ret
                exact ⟨by first | rfl | (simp [errW_none, errW_some] <;> rfl) | (simp [*, errW_none, errW_some] <;> rfl), by repeat (first | (with_reducible first | exact HB.out | apply below_alloc | apply pw_below_drewN | apply below_drew1 | refine below_set ?_ GE220.out) | exact HB.out)⟩
            · replace c52 := Bool.eq_false_iff.mpr c52
              subst c52
              have H1 : (some false) = some r := by rw [if_neg (show ¬ (false = true) by decide)] at H; exact H
              clear H
              have H := H1
              clear H1
              obtain rfl := Option.some.inj H
              go_wp2_with (first | ((with_reducible refine gate_callee (f := 23) rfl ?_); refine goesL_ (some 129) rfl rfl Tryd.func23 (by kernel_rfl) rfl #[.int .u64 t221, .int .u64 t222] rfl (by (try simp only [List.map_toArray, List.map_cons, List.map_nil]); first | done | rfl | (simp only [List.length_drop, List.length_take]; rfl)) ?_; (with_reducible refine (field_Inverse.calls kj22 t221 t222 t249 t250 _ A39.out).mono ?_); rintro e w' ⟨rfl, ⟨nd, rfl⟩⟩; refine ⟨_, rfl, ?_⟩) | ((with_reducible refine gate_callee (f := 10) rfl ?_); refine goesL_ (some 149) rfl rfl Tryd.func10 (by kernel_rfl) rfl #[] rfl (by (try simp only [List.map_toArray, List.map_cons, List.map_nil]); first | done | rfl | (simp only [List.length_drop, List.length_take]; rfl)) ?_; (with_reducible refine (privitylaw01_awake.calls kj22  false _ ?side1 A51.out).mono ?_); (case side1 => first | exact hG | (refine Gl.below hG ?_; (repeat (first | (with_reducible first | exact HB.out | apply below_alloc | apply pw_below_drewN | apply below_drew1 | refine below_set ?_ GE220.out) | exact HB.out)); done) | (refine Gl.drawn hG ?_; (repeat (first | exact Drawn0.refl _ | apply Drawn0.step)); done)); rintro e w63 ⟨rfl, hb⟩; refine ⟨_, rfl, ?_⟩; have n0_ := Aside0.mk (blk_below (g := gb220) (o := .cells #[.int .u64 a0_0, .int .u64 a0_1, .int .u64 a0_2, .int .u64 a0_3] 27 (0, 0)) (by (with_reducible repeat (first | refine blk_drewN ?_ _ | refine blk_drew ?_ | refine blk_alloc ?_ _)); exact BK220.out) hb); have n1_ := Aside0.mk (below_step (by repeat (first | (with_reducible first | exact HB.out | apply below_alloc | apply pw_below_drewN | apply below_drew1 | refine below_set ?_ GE220.out) | exact HB.out)) hb); clear BK220; clear HB; have BK220 := n0_; have HB := n1_; clear n0_ n1_; (try clear hb); (try clear hb2); (try clear hk); (try clear hi)))
              go_ret
              exact ⟨by first | rfl | (simp [errW_none, errW_some] <;> rfl) | (simp [*, errW_none, errW_some] <;> rfl), by repeat (first | (with_reducible first | exact HB.out | apply below_alloc | apply pw_below_drewN | apply below_drew1 | refine below_set ?_ GE220.out) | exact HB.out)⟩

/-! ### field_Reduce: function 24 -/
def field_Reduce.f (k : Nat) (a0 : Int) (a1 : Int) : Option (Int) := (field_fold.f k a0 0 a1).bind fun t254 => (some t254)
theorem field_Reduce.mono : ∀ a0 a1 k, LeO (field_Reduce.f k a0 a1) (field_Reduce.f (k + 1) a0 a1) := by
  intro a0 a1 k
  unfold field_Reduce.f
  repeat' first
      | (with_reducible exact field_fold.mono _ _ _ _)
      | (with_reducible exact LeO.refl _)
      | (with_reducible exact LeO.none _)
      | (with_reducible refine LeO.ite ?_ ?_)
      | (with_reducible refine LeO.bind ?_ (fun _ => ?_))
      | exact field_fold.mono _ _ _ _
      | exact LeO.none _
      | refine LeO.ite ?_ ?_
      | refine LeO.bind ?_ (fun _ => ?_)
set_option maxHeartbeats 8000000 in
set_option maxRecDepth 100000 in
theorem field_Reduce.calls (k : Nat) (a0 : Int) (a1 : Int) (r : Int) (w : World) (h : field_Reduce.f k a0 a1 = some r) :
    Calls Tryd.prog 24 #[.int .u64 a0, .int .u64 a1] w fun e w' => e = .returned (.int .u64 r) ∧ Drawn0 w w' := by
  have H : ((field_fold.f k a0 0 a1).bind fun t254 => (some t254)) = some r := h
  clear h
  replace H := Option.bind_eq_some_iff.mp H
  obtain ⟨t254, A30, H⟩ := H
  replace H : (some t254) = some r := H
  have A3 := Aside0.mk A30
  clear A30
  obtain rfl := Option.some.inj H
  go_enter Tryd.func24, Tryd.ntmps24
  go_wp2_with (first | ((with_reducible refine gate_callee (f := 33) rfl ?_); refine goesL_ (some 7) rfl rfl Tryd.func33 (by kernel_rfl) rfl #[.int .u64 a0, .int .u64 0, .int .u64 a1] rfl (by (try simp only [List.map_toArray, List.map_cons, List.map_nil]); first | done | rfl | (simp only [List.length_drop, List.length_take]; rfl)) ?_; (with_reducible refine (field_fold.calls k a0 0 a1 t254 _ A3.out).mono ?_); rintro e w' ⟨rfl, ⟨nd, rfl⟩⟩; refine ⟨_, rfl, ?_⟩))
  go_ret
  exact ⟨by first | rfl | (simp; done) | (simp [*]; done), by repeat (first | exact Drawn0.refl _ | apply Drawn0.step)⟩

/-! ### privityref01_Add: function 25 -/
def privityref01_Add.f (a0 : Int) (a1 : Int) (a2 : Int) : Option (Int) := if a0 = 0 then (none) else (some (Int.tmod (IntKind.u64.wrap (a1 + a2)) a0))
set_option maxHeartbeats 8000000 in
set_option maxRecDepth 100000 in
theorem privityref01_Add.calls (a0 : Int) (a1 : Int) (a2 : Int) (r : Int) (w : World) (h : privityref01_Add.f a0 a1 a2 = some r) :
    Calls Tryd.prog 25 #[.int .u64 a0, .int .u64 a1, .int .u64 a2] w fun e w' => e = .returned (.int .u64 r) ∧ Drawn0 w w' := by
  have H : (if a0 = 0 then (none) else (some (Int.tmod (IntKind.u64.wrap (a1 + a2)) a0))) = some r := h
  clear h
  by_cases c4 : a0 = 0
  · rw [if_pos c4] at H
    exact absurd H (by simp)
  · rw [if_neg c4] at H
    have c4b0 : (a0 == 0) = false := beq_eq_false_iff_ne.mpr c4
    have c4b1 : (a0 != 0) = true := bne_iff_ne.mpr c4
    obtain rfl := Option.some.inj H
    go_enter Tryd.func25, Tryd.ntmps25
    go_wp2
    go_ret
    exact ⟨by first | rfl | (simp; done) | (simp [*]; done), by repeat (first | exact Drawn0.refl _ | apply Drawn0.step)⟩

/-! ### privityref01_Sub: function 26 -/
def privityref01_Sub.f (a0 : Int) (a1 : Int) (a2 : Int) : Option (Int) := if a0 = 0 then (none) else (some (Int.tmod (IntKind.u64.wrap ((IntKind.u64.wrap (a1 + a0)) - a2)) a0))
set_option maxHeartbeats 8000000 in
set_option maxRecDepth 100000 in
theorem privityref01_Sub.calls (a0 : Int) (a1 : Int) (a2 : Int) (r : Int) (w : World) (h : privityref01_Sub.f a0 a1 a2 = some r) :
    Calls Tryd.prog 26 #[.int .u64 a0, .int .u64 a1, .int .u64 a2] w fun e w' => e = .returned (.int .u64 r) ∧ Drawn0 w w' := by
  have H : (if a0 = 0 then (none) else (some (Int.tmod (IntKind.u64.wrap ((IntKind.u64.wrap (a1 + a0)) - a2)) a0))) = some r := h
  clear h
  by_cases c4 : a0 = 0
  · rw [if_pos c4] at H
    exact absurd H (by simp)
  · rw [if_neg c4] at H
    have c4b0 : (a0 == 0) = false := beq_eq_false_iff_ne.mpr c4
    have c4b1 : (a0 != 0) = true := bne_iff_ne.mpr c4
    obtain rfl := Option.some.inj H
    go_enter Tryd.func26, Tryd.ntmps26
    go_wp2
    go_ret
    exact ⟨by first | rfl | (simp; done) | (simp [*]; done), by repeat (first | exact Drawn0.refl _ | apply Drawn0.step)⟩

/-! ### privityref01_Neg: function 27 -/
def privityref01_Neg.f (a0 : Int) (a1 : Int) : Option (Int) := if a0 = 0 then (none) else (some (Int.tmod (IntKind.u64.wrap (a0 - a1)) a0))
set_option maxHeartbeats 8000000 in
set_option maxRecDepth 100000 in
theorem privityref01_Neg.calls (a0 : Int) (a1 : Int) (r : Int) (w : World) (h : privityref01_Neg.f a0 a1 = some r) :
    Calls Tryd.prog 27 #[.int .u64 a0, .int .u64 a1] w fun e w' => e = .returned (.int .u64 r) ∧ Drawn0 w w' := by
  have H : (if a0 = 0 then (none) else (some (Int.tmod (IntKind.u64.wrap (a0 - a1)) a0))) = some r := h
  clear h
  by_cases c3 : a0 = 0
  · rw [if_pos c3] at H
    exact absurd H (by simp)
  · rw [if_neg c3] at H
    have c3b0 : (a0 == 0) = false := beq_eq_false_iff_ne.mpr c3
    have c3b1 : (a0 != 0) = true := bne_iff_ne.mpr c3
    obtain rfl := Option.some.inj H
    go_enter Tryd.func27, Tryd.ntmps27
    go_wp2
    go_ret
    exact ⟨by first | rfl | (simp; done) | (simp [*]; done), by repeat (first | exact Drawn0.refl _ | apply Drawn0.step)⟩

end Go.Proofs.YtfphiecadaplbaaDoor.PA

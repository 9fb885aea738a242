/- DivMod returns the quotient, the remainder and the error of the reference implementation. -/
import Derived.Test.YtjkggiemnfigbaaSPolyDivMod
import Derived.Test.YtjkggiemnfigbaaFPRefTD
namespace Go.Proofs.Ytjkggiemnfigbaa.polyDivMod
open Go.RowKit Go.Proofs.YtjkggiemnfigbaaW.PrintWords Go.Proofs.YtjkggiemnfigbaaW.PrintMore Go.Proofs.Ytjkggiemnfigbaa.PF Go.Proofs.Ytjkggiemnfigbaa.PQ Go.Proofs.Ytjkggiemnfigbaa.PC Go.Proofs.Ytjkggiemnfigbaa.PTD Go.Proofs.YtjkggiemnfigbaaNum Go.Proofs.Ytjkggiemnfigbaa.FEv Go.Proofs.Ytjkggiemnfigbaa.FPoly
theorem quot_len {q : Nat} [NeZero q] (hq : Sup q) {a b Q R : List (Fin q)} (hb : Tr b) (hb0 : b ≠ []) (hD : IsDiv a b Q R) : Q.length ≤ a.length := by
  rcases Nat.eq_zero_or_pos Q.length with z | z
  · omega
  · have h3 := pmul_length hq.pr hD.tq hb (fun e => by rw [e] at z; simp at z) hb0
    have hbl : 0 < b.length := List.length_pos_iff.mpr hb0
    have hl := hD.less
    have h5 : cf a (Q.length + b.length - 1 - 1) ≠ 0 := by
      rw [hD.eq, cf_ge (l := R) (by omega), ← cf_pmul]
      have h6 := (tr_pmul Q b).resolve_left (fun e => by rw [e] at h3; simp at h3; omega)
      rw [h3] at h6
      intro e
      apply h6
      rw [← e]
      grind
    rcases Nat.lt_or_ge (Q.length + b.length - 1 - 1) a.length with h7 | h7
    · omega
    · exact absurd (cf_ge h7) h5
theorem Pure.proved : Pure := by
  intro ⟨x0, l1, l2, l3, x4, x5⟩ ⟨h0, ⟨_, h1⟩, ⟨_, h2⟩, ⟨_, h3⟩, h4, h5⟩
  apply Ev.rounds
  obtain ⟨q, hz, a, b, c, hq, ha, hb, hc, e⟩ := fit_ex x0 x4 x5 l1 l2 l3 h0 h1 h2 h3
  unfold privitylaw04_PolyDivMod.f
  refine Ev.bind e ?_
  have l1 := ptrim_len b
  by_cases h : ptrim b = []
  · exact Ev.bind (divmod_zero a b (by omega) h) (Ev.bind (ref_divmod_zero a b (by omega) h) (Ev.bind awake_ev (Ev.pos rfl (Ev.bind (equal_ev (by simp) rfl) (Ev.pos rfl (Ev.bind (equal_ev (by simp) rfl) (Ev.pos rfl (Ev.now _))))))))
  · obtain ⟨Q, R, hD, hE⟩ := divmod_ev hq a b (by omega) (by omega) h
    obtain ⟨Q', R', hD', hE'⟩ := ref_divmod_ev hq a b (by omega) (by omega) h
    obtain ⟨e1, e2⟩ := IsDiv.unique hq.pr (tr_ptrim b) hD hD'
    have l2 := hD.less
    have l3 := quot_len hq (tr_ptrim b) h hD
    exact Ev.bind hE (Ev.bind hE' (Ev.bind awake_ev (Ev.pos rfl (Ev.bind (eqV_ev (by omega) e1) (Ev.pos rfl (Ev.bind (eqV_ev (by omega) e2) (Ev.pos rfl (Ev.now _))))))))
end Go.Proofs.Ytjkggiemnfigbaa.polyDivMod

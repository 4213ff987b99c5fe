/- The law FnFar is proved: the distance is symmetric, 0 just for equal texts, and between the difference and the maximum of the lengths. No condition. -/
import Derived.Test.YtphnkoicfehalaaFarFnFar
import Derived.Test.YtphnkoicfehalaaFarDrawFnFar
namespace Go.Proofs.Ytphnkoicfehalaa.DFnFar
open Go.RowKit Go.Proofs.Ytphnkoicfehalaa.PFnFar Go.Proofs.YtphnkoicfehalaaW.PrintWords Go.Proofs.YtphnkoicfehalaaW.PrintLast Go.Proofs.Ytphnkoicfehalaa.T Go.Proofs.Ytphnkoicfehalaa.Lv
set_option linter.unusedVariables false
set_option linter.unusedSimpArgs false
theorem empty_txt : txt ⟨#[]⟩ = true := by decide
theorem law (a b : ByteArray) (ha : a.size ≤ 1000) (hb : b.size ≤ 1000) (ta : txt a = true) (tb : txt b = true) : Ev (fun k => laws_FnFar.j0 k a b (lev (bs a) (bs b) : Int) false) true := by
  have hab : far b a = (lev (bs a) (bs b) : Int) := by unfold far; rw [ta, tb, lev_comm]; rfl
  have he : far a ⟨#[]⟩ = (a.size : Int) := by unfold far; rw [ta, empty_txt, show bs ⟨#[]⟩ = [] from rfl, lev_nil_right, bs_length]; rfl
  have hz : (((lev (bs a) (bs b) : Int) == 0) == (a.toList == b.toList)) = true := by
    rw [beq_iff_eq, toList_bs, toList_bs, Bool.eq_iff_iff, beq_iff_eq, beq_iff_eq]
    have := lev_zero (a := bs a) (b := bs b)
    constructor
    · intro h; exact this.1 (by omega)
    · intro h; have := this.2 h; omega
  have hl := lev_len (bs a) (bs b)
  have hm := lev_max (bs a) (bs b)
  rw [bs_length, bs_length] at hl hm
  refine ev_succ ?_
  simp only [laws_FnFar.j0]
  refine ev_neg (by decide) (ev_ite (fun h => ?_) (fun h => ?_))
  · refine ev_bind (far_ev b a (by omega) (by omega)) (ev_pos hab (ev_pos hz (ev_pos (by omega) ?_)))
    rw [w64' _ (by omega) (by omega)]
    refine ev_pos (by omega) (ev_bind (far_ev a ⟨#[]⟩ (by omega) (by decide)) (ev_eq ?_))
    rw [he]; exact beq_self_eq_true _
  · refine ev_bind (far_ev b a (by omega) (by omega)) (ev_pos hab (ev_pos hz (ev_pos (by omega) ?_)))
    rw [w64' _ (by omega) (by omega)]
    refine ev_pos (by omega) (ev_bind (far_ev a ⟨#[]⟩ (by omega) (by decide)) (ev_eq ?_))
    rw [he]; exact beq_self_eq_true _
end Go.Proofs.Ytphnkoicfehalaa.DFnFar
namespace Go.Proofs.Ytphnkoicfehalaa.Pure
open Go.RowKit Go.Proofs.Ytphnkoicfehalaa.PFnFar Go.Proofs.YtphnkoicfehalaaW.PrintWords Go.Proofs.YtphnkoicfehalaaW.PrintLast Go.Proofs.Ytphnkoicfehalaa.T Go.Proofs.Ytphnkoicfehalaa.DFnFar
theorem FnFar : laws_FnFar.Pure := by
  intro l0 _ _ hw
  refine Ev.rounds (g := fun k => laws_FnFar.f k l0) ?_
  unfold laws_FnFar.f
  obtain ⟨a, b, hd, ha, hb⟩ := drawFar l0 hw
  refine ev_ite (fun _ => ev_some) (fun _ => ev_bind hd (ev_bind (far_ev a b (by omega) (by omega)) (ev_bind (sfar_ev a b (by omega) (by omega)) (ev_pos rfl ?_))))
  show Ev (fun k => laws_FnFar.j0 k a b (far a b) (decide (far a b < 0))) true
  rcases far_cases a b with ⟨ta, tb, e⟩ | ⟨_, e⟩
  · rw [e, decide_eq_false (by omega)]
    exact law a b ha hb ta tb
  · rw [e]
    refine ev_succ ?_
    simp only [laws_FnFar.j0]
    refine ev_pos (by decide) (ev_bind (sfar_ev a b (by omega) (by omega)) (ev_eq ?_))
    rw [e]; rfl
end Go.Proofs.Ytphnkoicfehalaa.Pure

/- The law FnFarThree is proved: the distance satisfies the triangle inequality. No condition. -/
import Derived.Test.YtphnkoicfehalaaFarFnFarThree
import Derived.Test.YtphnkoicfehalaaFarDrawFnFarThree
namespace Go.Proofs.Ytphnkoicfehalaa.Pure
open Go.RowKit Go.Proofs.Ytphnkoicfehalaa.PFnFarThree Go.Proofs.YtphnkoicfehalaaW.PrintWords Go.Proofs.YtphnkoicfehalaaW.PrintLast Go.Proofs.Ytphnkoicfehalaa.T Go.Proofs.Ytphnkoicfehalaa.DFnFarThree Go.Proofs.Ytphnkoicfehalaa.Lv
set_option linter.unusedVariables false
set_option linter.unusedSimpArgs false
theorem FnFarThree : laws_FnFarThree.Pure := by
  intro l0 l1 _ _ hw _ _ hw1
  refine Ev.rounds (g := fun k => laws_FnFarThree.f k l0 l1) ?_
  unfold laws_FnFarThree.f
  have hno : Ev (fun k => laws_FnFarThree.j0 k l0 l1 true) true := by
    refine ev_succ ?_
    simp only [laws_FnFarThree.j0]
    exact ev_pos (by trivial) ev_some
  refine ev_ite (fun _ => hno) (fun h0 => ?_)
  by_cases h1 : (l1.length : Int) > 1048576
  · rw [decide_eq_true h1]; exact hno
  · rw [decide_eq_false h1]
    obtain ⟨a, b, hd, ha, hb⟩ := drawFar l0 hw
    obtain ⟨c, d, he, hc, _⟩ := drawFar l1 hw1
    refine ev_succ ?_
    simp only [laws_FnFarThree.j0]
    have hs : ∀ n : Int, Ev (fun k => (spec_Far.f k a b).bind fun t => some (far a b == t)) true := fun _ => ev_bind (sfar_ev a b (by omega) (by omega)) (ev_eq (beq_self_eq_true _))
    refine ev_neg (by decide) (ev_bind hd (ev_bind he (ev_bind (far_ev a b (by omega) (by omega)) (ev_bind (far_ev a c (by omega) (by omega)) (ev_bind (far_ev c b (by omega) (by omega)) (ev_bind (sfar_ev a b (by omega) (by omega)) (ev_pos rfl (ev_ite (fun _ => hs 0) (fun n1 => ev_ite (fun _ => hs 0) (fun n2 => ev_ite (fun _ => hs 0) (fun n3 => ev_eq ?_)))))))))))
    have n1' : ¬ far a b < 0 := n1
    have n2' : ¬ far a c < 0 := n2
    have n3' : ¬ far c b < 0 := n3
    rcases far_cases a b with ⟨ta, tb, e⟩ | ⟨_, e⟩
    · rcases far_cases a c with ⟨_, tc, e'⟩ | ⟨_, e'⟩
      · rcases far_cases c b with ⟨_, _, e''⟩ | ⟨_, e''⟩
        · have z1 := txt_size ta
          have z2 := txt_size tb
          have z3 := txt_size tc
          have m1 := lev_max (bs a) (bs c)
          have m2 := lev_max (bs c) (bs b)
          rw [bs_length, bs_length] at m1 m2
          have t := lev_triangle (bs a) (bs c) (bs b)
          show decide (far a b ≤ wrap64 (far a c + far c b)) = true
          rw [e, e', e'', w64' _ (by omega) (by omega)]
          exact decide_eq_true (by omega)
        · omega
      · omega
    · omega
end Go.Proofs.Ytphnkoicfehalaa.Pure

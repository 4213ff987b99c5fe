/- The law FnFarOne is proved: one more byte changes the distance by at most one, and the same byte behind or ahead of both texts changes nothing. No condition. -/
import Derived.Test.YtphnkoicfehalaaFarFnFarOne
import Derived.Test.YtphnkoicfehalaaFarDrawFnFarOne
namespace Go.Proofs.Ytphnkoicfehalaa.DFnFarOne
open Go.RowKit Go.Proofs.Ytphnkoicfehalaa.PFnFarOne Go.Proofs.YtphnkoicfehalaaW.PrintWords Go.Proofs.YtphnkoicfehalaaW.PrintLast Go.Proofs.Ytphnkoicfehalaa.T Go.Proofs.Ytphnkoicfehalaa.Lv
set_option linter.unusedVariables false
set_option linter.unusedSimpArgs false
/-- The byte that is laid behind or ahead. -/
def qq : ByteArray := ⟨#[113]⟩
theorem bs_qq : bs qq = [113] := rfl
theorem txt_of {s : ByteArray} (h : (bs s).all vis = true) (hz : s.size ≤ 60) : txt s = true := by
  unfold txt; rw [h, decide_eq_true (by omega)]; rfl
theorem txt_vis {s : ByteArray} (h : txt s = true) : (bs s).all vis = true := by
  unfold txt at h; simp only [Bool.and_eq_true] at h; exact h.1
theorem txt_snoc {a : ByteArray} (h : txt a = true) (hz : a.size < 60) : txt (a ++ qq) = true := by
  refine txt_of ?_ (by rw [size_append]; show a.size + 1 ≤ 60; omega)
  rw [bs_append, List.all_append, txt_vis h, bs_qq]; decide
theorem txt_cons {a : ByteArray} (h : txt a = true) (hz : a.size < 60) : txt (qq ++ a) = true := by
  refine txt_of ?_ (by rw [size_append]; show 1 + a.size ≤ 60; omega)
  rw [bs_append, List.all_append, txt_vis h, bs_qq]; decide
theorem far_txt {a b : ByteArray} (ta : txt a = true) (tb : txt b = true) : far a b = (lev (bs a) (bs b) : Int) := by unfold far; rw [ta, tb]; rfl
theorem lev_one (A : List UInt8) : lev A (A ++ [113]) = 1 := by
  have h1 := lev_le ((Ed.refl A).snoc_ins 113)
  have h2 := lev_len A (A ++ [113])
  rw [List.length_append, List.length_singleton] at h2
  omega
theorem law (a b : ByteArray) (ha : a.size < 60) (hb : b.size < 60) (ta : txt a = true) (tb : txt b = true) : Ev (fun k => laws_FnFarOne.j0 k a b (lev (bs a) (bs b) : Int) false) true := by
  have t1 := lev_triangle (bs a ++ [113]) (bs a) (bs b)
  have t2 := lev_triangle (bs a) (bs a ++ [113]) (bs b)
  have t3 := lev_one (bs a)
  have t4 := lev_comm (bs a) (bs a ++ [113])
  have t5 := lev_max (bs a) (bs b)
  rw [bs_length, bs_length] at t5
  have e1 : far (a ++ qq) b = (lev (bs a ++ [113]) (bs b) : Int) := by rw [far_txt (txt_snoc ta ha) tb, bs_append, bs_qq]
  have e2 : far (a ++ qq) (b ++ qq) = (lev (bs a) (bs b) : Int) := by rw [far_txt (txt_snoc ta ha) (txt_snoc tb hb), bs_append, bs_append, bs_qq, lev_snoc]
  have e3 : far (qq ++ a) (qq ++ b) = (lev (bs a) (bs b) : Int) := by rw [far_txt (txt_cons ta ha) (txt_cons tb hb), bs_append, bs_append, bs_qq]; show ((lev (113 :: bs a) (113 :: bs b) : Nat) : Int) = _; rw [lev_same]
  have e4 : far a (a ++ qq) = 1 := by rw [far_txt ta (txt_snoc ta ha), bs_append, bs_qq, lev_one]; rfl
  have z1 : (a ++ qq).size = a.size + 1 := by rw [size_append]; rfl
  have z2 : (b ++ qq).size = b.size + 1 := by rw [size_append]; rfl
  have z3 : (qq ++ a).size = 1 + a.size := by rw [size_append]; rfl
  have z4 : (qq ++ b).size = 1 + b.size := by rw [size_append]; rfl
  refine ev_succ ?_
  simp only [laws_FnFarOne.j0]
  refine ev_neg (by decide) (ev_pos (by omega) (ev_bind (far_ev (a ++ qq) b (by omega) (by omega)) ?_))
  rw [w64' ((lev (bs a) (bs b) : Int) + 1) (by omega) (by omega), w64' ((lev (bs a) (bs b) : Int) - 1) (by omega) (by omega), e1]
  refine ev_pos (by omega) (ev_pos (by omega) (ev_pos (by omega) (ev_bind (far_ev (a ++ qq) (b ++ qq) (by omega) (by omega)) (ev_pos e2 (ev_pos (by omega) (ev_pos (by omega) (ev_bind (far_ev (qq ++ a) (qq ++ b) (by omega) (by omega)) (ev_pos e3 (ev_bind (far_ev a (a ++ qq) (by omega) (by omega)) (ev_eq ?_))))))))))
  rw [e4]; rfl
end Go.Proofs.Ytphnkoicfehalaa.DFnFarOne
namespace Go.Proofs.Ytphnkoicfehalaa.Pure
open Go.RowKit Go.Proofs.Ytphnkoicfehalaa.PFnFarOne Go.Proofs.YtphnkoicfehalaaW.PrintWords Go.Proofs.YtphnkoicfehalaaW.PrintLast Go.Proofs.Ytphnkoicfehalaa.T Go.Proofs.Ytphnkoicfehalaa.DFnFarOne
theorem FnFarOne : laws_FnFarOne.Pure := by
  intro l0 _ _ hw
  refine Ev.rounds (g := fun k => laws_FnFarOne.f k l0) ?_
  unfold laws_FnFarOne.f
  obtain ⟨a, b, hd, ha, hb⟩ := drawFar l0 hw
  have hno : Ev (fun k => laws_FnFarOne.j0 k a b (far a b) true) true := by
    refine ev_succ ?_
    simp only [laws_FnFarOne.j0]
    exact ev_pos (by trivial) (ev_bind (sfar_ev a b (by omega) (by omega)) (ev_eq (beq_self_eq_true _)))
  refine ev_ite (fun _ => ev_some) (fun _ => ev_bind hd (ev_bind (far_ev a b (by omega) (by omega)) (ev_bind (sfar_ev a b (by omega) (by omega)) (ev_pos rfl (ev_ite (fun _ => hno) (fun hlt => ev_ite (fun _ => hno) (fun h1 => ?_)))))))
  show Ev (fun k => laws_FnFarOne.j0 k a b (far a b) (decide ((b.size : Int) ≥ 60))) true
  by_cases h2 : (b.size : Int) ≥ 60
  · rw [decide_eq_true h2]; exact hno
  · rw [decide_eq_false h2]
    rcases far_cases a b with ⟨ta, tb, e⟩ | ⟨_, e⟩
    · rw [e]; exact law a b (by have : ¬ (a.size : Int) ≥ 60 := h1; omega) (by omega) ta tb
    · exact absurd (by show far a b < 0; omega) hlt
end Go.Proofs.Ytphnkoicfehalaa.Pure

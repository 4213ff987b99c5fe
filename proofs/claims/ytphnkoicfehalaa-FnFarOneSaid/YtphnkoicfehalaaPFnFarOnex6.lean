-- Printed by a program of this claim's session (wip/xprint.py, a turned copy of the kit's print); Lean checks it.
import Derived.Test.YtphnkoicfehalaaPFnFarOnex0
import Derived.Test.YtphnkoicfehalaaPFnFarOnex2
import Derived.Test.YtphnkoicfehalaaPFnFarOnex3
import Derived.Test.YtphnkoicfehalaaPFnFarOnex5
namespace Go.Proofs.Ytphnkoicfehalaa.PFnFarOne
open Go.RowKit Go.Proofs.YtphnkoicfehalaaW.PrintWords Go.Proofs.YtphnkoicfehalaaW.PrintLast Go.Proofs.YtphnkoicfehalaaW.PrintMore
attribute [local go_sem] max2_int min2_int max_two min_two max_three min_three max_four min_four   -- for this text's walks alone
set_option linter.unusedVariables false
set_option linter.unusedSimpArgs false

/-! ### laws_FnFarOne: function 4 -/
def laws_FnFarOne.j0 : Nat → ByteArray → ByteArray → Int → Bool → Option (Bool)
  | 0, _, _, _, _ => none
  | k + 1, x3, x4, x5, x36 => if x36 = true then ((spec_Far.f k x3 x4).bind fun t214 => (some (x5 == t214))) else (if x3.size + 1 ≤ 9223372036854775807 then ((impl_Far.f k (x3 ++ (⟨#[113]⟩ : ByteArray)) x4).bind fun t215 => (if t215 ≤ (wrap64 (x5 + 1)) then (if t215 ≥ (wrap64 (x5 - 1)) then (if x4.size + 1 ≤ 9223372036854775807 then ((impl_Far.f k (x3 ++ (⟨#[113]⟩ : ByteArray)) (x4 ++ (⟨#[113]⟩ : ByteArray))).bind fun t216 => (if t216 = x5 then (if 1 + x3.size ≤ 9223372036854775807 then (if 1 + x4.size ≤ 9223372036854775807 then ((impl_Far.f k ((⟨#[113]⟩ : ByteArray) ++ x3) ((⟨#[113]⟩ : ByteArray) ++ x4)).bind fun t217 => (if t217 = x5 then ((impl_Far.f k x3 (x3 ++ (⟨#[113]⟩ : ByteArray))).bind fun t218 => (some (t218 == 1))) else (some false))) else (none)) else (none)) else (some false))) else (none)) else (some false)) else (some false))) else (none))
def laws_FnFarOne.f (k : Nat) (l0 : List Int) : Option (Bool) := if (l0.length : Int) > 1048576 then (some true) else ((spec_DrawFar.f k l0).bind fun bt210 => ((impl_Far.f k bt210.1 bt210.2).bind fun t212 => ((spec_Far.f k bt210.1 bt210.2).bind fun t213 => (if t212 = t213 then (if t212 < 0 then (laws_FnFarOne.j0 k bt210.1 bt210.2 t212 true) else (if (bt210.1.size : Int) ≥ 60 then (laws_FnFarOne.j0 k bt210.1 bt210.2 t212 true) else (laws_FnFarOne.j0 k bt210.1 bt210.2 t212 (decide ((bt210.2.size : Int) ≥ 60))))) else (laws_FnFarOne.j0 k bt210.1 bt210.2 t212 true)))))
theorem laws_FnFarOne.mono_l : ∀ k, (∀ y0 y1 y2 y3, LeO (laws_FnFarOne.j0 k y0 y1 y2 y3) (laws_FnFarOne.j0 (k + 1) y0 y1 y2 y3))
  | 0 => fun _ _ _ _ r h => by simp [laws_FnFarOne.j0] at h
  | k + 1 => by
    have ih0 := laws_FnFarOne.mono_l k
    · intro y0 y1 y2 y3
      unfold laws_FnFarOne.j0
      repeat' first
      | (with_reducible exact ih0 _ _ _ _)
      | (with_reducible exact impl_Far.mono _ _ _)
      | (with_reducible exact spec_DrawFar.mono _ _)
      | (with_reducible exact spec_Far.mono _ _ _)
      | (with_reducible exact LeO.refl _)
      | (with_reducible exact LeO.none _)
      | (with_reducible refine LeO.ite ?_ ?_)
      | (with_reducible refine LeO.bind ?_ (fun _ => ?_))
      | exact ih0 _ _ _ _
      | exact impl_Far.mono _ _ _
      | exact spec_DrawFar.mono _ _
      | exact spec_Far.mono _ _ _
      | exact LeO.none _
      | refine LeO.ite ?_ ?_
      | refine LeO.bind ?_ (fun _ => ?_)
theorem laws_FnFarOne.mono : ∀ a0 k, LeO (laws_FnFarOne.f k a0) (laws_FnFarOne.f (k + 1) a0) := by
  intro a0 k
  have ih0 := laws_FnFarOne.mono_l k
  unfold laws_FnFarOne.f
  repeat' first
      | (with_reducible exact ih0 _ _ _ _)
      | (with_reducible exact impl_Far.mono _ _ _)
      | (with_reducible exact spec_DrawFar.mono _ _)
      | (with_reducible exact spec_Far.mono _ _ _)
      | (with_reducible exact LeO.refl _)
      | (with_reducible exact LeO.none _)
      | (with_reducible refine LeO.ite ?_ ?_)
      | (with_reducible refine LeO.bind ?_ (fun _ => ?_))
      | exact ih0 _ _ _ _
      | exact impl_Far.mono _ _ _
      | exact spec_DrawFar.mono _ _
      | exact spec_Far.mono _ _ _
      | exact LeO.none _
      | refine LeO.ite ?_ ?_
      | refine LeO.bind ?_ (fun _ => ?_)
set_option maxHeartbeats 8000000 in
set_option maxRecDepth 100000 in
theorem laws_FnFarOne.calls (k : Nat) (A0 : Option Addr) (c0 : Nat) (l0 : List Int) (r : Bool) (w : World) (hr0 : Kd.C (Kd.int .u8) w A0 l0.length l0) (hc0 : l0.length ≤ c0) (h : laws_FnFarOne.f k l0 = some r) :
    Calls Try.prog 4 #[.slice A0 l0.length c0] w fun e w' => e = .returned (.bool r) ∧ Below w.heap.size w w' := by
  have HR0 := Aside0.mk hr0
  have HC0 := Aside0.mk hc0
  clear hr0 hc0
  have HB := Aside0.mk (Below.refl w.heap.size w)
  have H : (if (l0.length : Int) > 1048576 then (some true) else ((spec_DrawFar.f k l0).bind fun bt210 => ((impl_Far.f k bt210.1 bt210.2).bind fun t212 => ((spec_Far.f k bt210.1 bt210.2).bind fun t213 => (if t212 = t213 then (if t212 < 0 then (laws_FnFarOne.j0 k bt210.1 bt210.2 t212 true) else (if (bt210.1.size : Int) ≥ 60 then (laws_FnFarOne.j0 k bt210.1 bt210.2 t212 true) else (laws_FnFarOne.j0 k bt210.1 bt210.2 t212 (decide ((bt210.2.size : Int) ≥ 60))))) else (laws_FnFarOne.j0 k bt210.1 bt210.2 t212 true)))))) = some r := h
  clear h
  by_cases c2 : (l0.length : Int) > 1048576
  · rw [if_pos c2] at H
    have c2b0 : decide (1048576 < (l0.length : Int)) = true := decide_eq_true c2
    have c2b1 : decide (1048576 < l0.length) = true := decide_eq_true (by omega)
    clear c2
    obtain rfl := Option.some.inj H
    go_enter Try.func4, Try.ntmps4
    go_wp2
    go_ret
    exact ⟨by first | rfl | (simp [errW_none, errW_some] <;> rfl) | (simp [*, errW_none, errW_some] <;> rfl), by repeat (first | (with_reducible first | exact HB.out | apply below_alloc | apply pw_below_drewN | apply below_drew1) | exact HB.out)⟩
  · rw [if_neg c2] at H
    have c2b0 : decide (1048576 < (l0.length : Int)) = false := decide_eq_false c2
    have c2b1 : decide (1048576 < l0.length) = false := decide_eq_false (by omega)
    clear c2
    replace H := Option.bind_eq_some_iff.mp H
    obtain ⟨⟨t210, t211⟩, A30, H⟩ := H
    replace H : ((impl_Far.f k t210 t211).bind fun t212 => ((spec_Far.f k t210 t211).bind fun t213 => (if t212 = t213 then (if t212 < 0 then (laws_FnFarOne.j0 k t210 t211 t212 true) else (if (t210.size : Int) ≥ 60 then (laws_FnFarOne.j0 k t210 t211 t212 true) else (laws_FnFarOne.j0 k t210 t211 t212 (decide ((t211.size : Int) ≥ 60))))) else (laws_FnFarOne.j0 k t210 t211 t212 true)))) = some r := H
    have A3 := Aside0.mk A30
    clear A30
    replace H := Option.bind_eq_some_iff.mp H
    obtain ⟨t212, A40, H⟩ := H
    replace H : ((spec_Far.f k t210 t211).bind fun t213 => (if t212 = t213 then (if t212 < 0 then (laws_FnFarOne.j0 k t210 t211 t212 true) else (if (t210.size : Int) ≥ 60 then (laws_FnFarOne.j0 k t210 t211 t212 true) else (laws_FnFarOne.j0 k t210 t211 t212 (decide ((t211.size : Int) ≥ 60))))) else (laws_FnFarOne.j0 k t210 t211 t212 true))) = some r := H
    have A4 := Aside0.mk A40
    clear A40
    have HC5 := Aside0.mk H
    clear H
    go_enter Try.func4, Try.ntmps4
    go_upto_region 5 with (first | ((with_reducible refine gate_callee (f := 6) rfl ?_); refine goesL_ (some 12) rfl rfl Try.func6 (by kernel_rfl) rfl #[.slice A0 l0.length c0] rfl (by (try simp only [List.map_toArray, List.map_cons, List.map_nil]); first | done | rfl | (simp only [List.length_drop, List.length_take]; rfl)) ?_; (with_reducible refine (spec_DrawFar.calls k _ _ l0 t210 t211 _ ?side1 ?side2 A3.out).mono ?_); (case side1 => repeat (first | exact HR0.out | (with_reducible refine Kd.C_alloc ?_ _) | (with_reducible refine Kd.C_drewN ?_ _) | (with_reducible refine Kd.C_drew ?_))); (case side2 => exact HC0.out); rintro e w6 ⟨rfl, hb⟩; refine ⟨_, rfl, ?_⟩; have n0_ := Aside0.mk (below_step (by repeat (first | (with_reducible first | exact HB.out | apply below_alloc | apply pw_below_drewN | apply below_drew1) | exact HB.out)) hb); clear HB; have HB := n0_; clear n0_; (try clear hb); (try clear hb2); (try clear hk); (try clear hi)) | ((with_reducible refine gate_callee (f := 7) rfl ?_); refine goesL_ (some 17) rfl rfl Try.func7 (by kernel_rfl) rfl #[.string t210, .string t211] rfl (by (try simp only [List.map_toArray, List.map_cons, List.map_nil]); first | done | rfl | (simp only [List.length_drop, List.length_take]; rfl)) ?_; (with_reducible refine (impl_Far.calls k t210 t211 t212 _ A4.out).mono ?_); rintro e w7 ⟨rfl, hb⟩; refine ⟨_, rfl, ?_⟩; have n0_ := Aside0.mk (below_step (by repeat (first | (with_reducible first | exact HB.out | apply below_alloc | apply pw_below_drewN | apply below_drew1) | exact HB.out)) hb); clear HB; have HB := n0_; clear n0_; (try clear hb); (try clear hb2); (try clear hk); (try clear hi)))
    (try simp only [Act.put, List.setIfInBounds_toArray, List.set_cons_zero, List.set_cons_succ])
    go_cut [36] (fun v36 wc => ∃ (kq : Nat) (x36_4 : Bool), v36 = .bool x36_4 ∧ Aside0 (laws_FnFarOne.j0 kq t210 t211 t212 x36_4 = some r) ∧ Aside0 (kq ≤ k) ∧ Aside0 (Below w.heap.size w wc))
    case first =>
      have H := HC5.out
      clear HC5
      replace H := Option.bind_eq_some_iff.mp H
      obtain ⟨t213, A80, H⟩ := H
      replace H : (if t212 = t213 then (if t212 < 0 then (laws_FnFarOne.j0 k t210 t211 t212 true) else (if (t210.size : Int) ≥ 60 then (laws_FnFarOne.j0 k t210 t211 t212 true) else (laws_FnFarOne.j0 k t210 t211 t212 (decide ((t211.size : Int) ≥ 60))))) else (laws_FnFarOne.j0 k t210 t211 t212 true)) = some r := H
      have A8 := Aside0.mk A80
      clear A80
      by_cases c9 : t212 = t213
      · rw [if_pos c9] at H
        have c9b0 : (t212 == t213) = true := beq_iff_eq.mpr c9
        have c9b1 : (t212 != t213) = false := bne_eq_false_iff_eq.mpr c9
        clear c9
        (first | rw [c9b0] | (simp only [i64_w, i32_w]; rw [c9b0]) | skip)
        by_cases c10 : t212 < 0
        · rw [if_pos c10] at H
          have c10b0 : decide (t212 < 0) = true := decide_eq_true c10
          clear c10
          have H' := Aside0.mk H
          clear H
          go_wp2_with (first | ((with_reducible refine gate_callee (f := 8) rfl ?_); refine goesL_ (some 21) rfl rfl Try.func8 (by kernel_rfl) rfl #[.string t210, .string t211] rfl (by (try simp only [List.map_toArray, List.map_cons, List.map_nil]); first | done | rfl | (simp only [List.length_drop, List.length_take]; rfl)) ?_; (with_reducible refine (spec_Far.calls k t210 t211 t213 _ A8.out).mono ?_); rintro e w11 ⟨rfl, hb⟩; refine ⟨_, rfl, ?_⟩; have n0_ := Aside0.mk (below_step (by repeat (first | (with_reducible first | exact HB.out | apply below_alloc | apply pw_below_drewN | apply below_drew1) | exact HB.out)) hb); clear HB; have HB := n0_; clear n0_; (try clear hb); (try clear hb2); (try clear hk); (try clear hi)))
          go_meet
          case rel => exact ⟨_, (true), (by first | rfl | (simp; done) | (simp [*]; done)), H', ⟨by first | omega | exact Nat.le_refl _⟩, ⟨by repeat (first | (with_reducible first | exact HB.out | apply below_alloc | apply pw_below_drewN | apply below_drew1) | exact HB.out)⟩⟩
        · rw [if_neg c10] at H
          have c10b0 : decide (t212 < 0) = false := decide_eq_false c10
          clear c10
          by_cases c12 : (t210.size : Int) ≥ 60
          · rw [if_pos c12] at H
            have c12b0 : decide (60 ≤ (t210.size : Int)) = true := decide_eq_true c12
            have c12b1 : decide (60 ≤ t210.size) = true := decide_eq_true (by omega)
            clear c12
            have H' := Aside0.mk H
            clear H
            go_wp2_with (first | ((with_reducible refine gate_callee (f := 8) rfl ?_); refine goesL_ (some 21) rfl rfl Try.func8 (by kernel_rfl) rfl #[.string t210, .string t211] rfl (by (try simp only [List.map_toArray, List.map_cons, List.map_nil]); first | done | rfl | (simp only [List.length_drop, List.length_take]; rfl)) ?_; (with_reducible refine (spec_Far.calls k t210 t211 t213 _ A8.out).mono ?_); rintro e w13 ⟨rfl, hb⟩; refine ⟨_, rfl, ?_⟩; have n0_ := Aside0.mk (below_step (by repeat (first | (with_reducible first | exact HB.out | apply below_alloc | apply pw_below_drewN | apply below_drew1) | exact HB.out)) hb); clear HB; have HB := n0_; clear n0_; (try clear hb); (try clear hb2); (try clear hk); (try clear hi)))
            go_meet
            case rel => exact ⟨_, (true), (by first | rfl | (simp; done) | (simp [*]; done)), H', ⟨by first | omega | exact Nat.le_refl _⟩, ⟨by repeat (first | (with_reducible first | exact HB.out | apply below_alloc | apply pw_below_drewN | apply below_drew1) | exact HB.out)⟩⟩
          · rw [if_neg c12] at H
            have c12b0 : decide (60 ≤ (t210.size : Int)) = false := decide_eq_false c12
            have c12b1 : decide (60 ≤ t210.size) = false := decide_eq_false (by omega)
            clear c12
            have H' := Aside0.mk H
            clear H
            go_wp2_with (first | ((with_reducible refine gate_callee (f := 8) rfl ?_); refine goesL_ (some 21) rfl rfl Try.func8 (by kernel_rfl) rfl #[.string t210, .string t211] rfl (by (try simp only [List.map_toArray, List.map_cons, List.map_nil]); first | done | rfl | (simp only [List.length_drop, List.length_take]; rfl)) ?_; (with_reducible refine (spec_Far.calls k t210 t211 t213 _ A8.out).mono ?_); rintro e w14 ⟨rfl, hb⟩; refine ⟨_, rfl, ?_⟩; have n0_ := Aside0.mk (below_step (by repeat (first | (with_reducible first | exact HB.out | apply below_alloc | apply pw_below_drewN | apply below_drew1) | exact HB.out)) hb); clear HB; have HB := n0_; clear n0_; (try clear hb); (try clear hb2); (try clear hk); (try clear hi)))
            go_meet
            case rel => exact ⟨_, (decide ((t211.size : Int) ≥ 60)), (by first | rfl | (simp; done) | (simp [*]; done)), H', ⟨by first | omega | exact Nat.le_refl _⟩, ⟨by repeat (first | (with_reducible first | exact HB.out | apply below_alloc | apply pw_below_drewN | apply below_drew1) | exact HB.out)⟩⟩
      · rw [if_neg c9] at H
        have c9b0 : (t212 == t213) = false := beq_eq_false_iff_ne.mpr c9
        have c9b1 : (t212 != t213) = true := bne_iff_ne.mpr c9
        (first | rw [c9b0] | (simp only [i64_w, i32_w]; rw [c9b0]) | skip)
        have H' := Aside0.mk H
        clear H
        go_wp2_with (first | ((with_reducible refine gate_callee (f := 8) rfl ?_); refine goesL_ (some 21) rfl rfl Try.func8 (by kernel_rfl) rfl #[.string t210, .string t211] rfl (by (try simp only [List.map_toArray, List.map_cons, List.map_nil]); first | done | rfl | (simp only [List.length_drop, List.length_take]; rfl)) ?_; (with_reducible refine (spec_Far.calls k t210 t211 t213 _ A8.out).mono ?_); rintro e w15 ⟨rfl, hb⟩; refine ⟨_, rfl, ?_⟩; have n0_ := Aside0.mk (below_step (by repeat (first | (with_reducible first | exact HB.out | apply below_alloc | apply pw_below_drewN | apply below_drew1) | exact HB.out)) hb); clear HB; have HB := n0_; clear n0_; (try clear hb); (try clear hb2); (try clear hk); (try clear hi)))
        go_meet
        case rel => exact ⟨_, (true), (by first | rfl | (simp; done) | (simp [*]; done)), H', ⟨by first | omega | exact Nat.le_refl _⟩, ⟨by repeat (first | (with_reducible first | exact HB.out | apply below_alloc | apply pw_below_drewN | apply below_drew1) | exact HB.out)⟩⟩
    case rest =>
      clear HC5
      try clear c1
      try clear c2
      try clear c2b0
      try clear c2b1
      try clear p2
      try clear c4
      try clear c6
      try clear c7
      try clear c8
      try clear c9
      try clear c9b0
      try clear c9b1
      try clear c10
      try clear c10b0
      try clear c12
      try clear c12b0
      try clear c12b1
      obtain ⟨kq, x36_4, rfl, HA, HJ4, HB⟩ := hcut
      cases kq with
      | zero => exact absurd HA.out (by simp [laws_FnFarOne.j0])
      | succ kj4 =>
        have H := HA.out
        clear HA
        simp only [laws_FnFarOne.j0] at H
        by_cases c16 : x36_4 = true
        · subst c16
          have H1 : ((spec_Far.f kj4 t210 t211).bind fun t214 => (some (t212 == t214))) = some r := by rw [if_pos rfl] at H; exact H
          clear H
          have H := H1
          clear H1
          replace H := Option.bind_eq_some_iff.mp H
          obtain ⟨t214, A170, H⟩ := H
          replace H : (some (t212 == t214)) = some r := H
          have A17 := Aside0.mk A170
          clear A170
          obtain rfl := Option.some.inj H
          go_wp2_with (first | ((with_reducible refine gate_callee (f := 8) rfl ?_); refine goesL_ (some 40) rfl rfl Try.func8 (by kernel_rfl) rfl #[.string t210, .string t211] rfl (by (try simp only [List.map_toArray, List.map_cons, List.map_nil]); first | done | rfl | (simp only [List.length_drop, List.length_take]; rfl)) ?_; (with_reducible refine (spec_Far.calls kj4 t210 t211 t214 _ A17.out).mono ?_); rintro e w18 ⟨rfl, hb⟩; refine ⟨_, rfl, ?_⟩; have n0_ := Aside0.mk (below_step (by repeat (first | (with_reducible first | exact HB.out | apply below_alloc | apply pw_below_drewN | apply below_drew1) | exact HB.out)) hb); clear HB; have HB := n0_; clear n0_; (try clear hb); (try clear hb2); (try clear hk); (try clear hi)))
          go_ret
          exact ⟨by first | rfl | (simp [errW_none, errW_some] <;> rfl) | (simp [*, errW_none, errW_some] <;> rfl), by repeat (first | (with_reducible first | exact HB.out | apply below_alloc | apply pw_below_drewN | apply below_drew1) | exact HB.out)⟩
        · replace c16 := Bool.eq_false_iff.mpr c16
          subst c16
          have H1 : (if t210.size + 1 ≤ 9223372036854775807 then ((impl_Far.f kj4 (t210 ++ (⟨#[113]⟩ : ByteArray)) t211).bind fun t215 => (if t215 ≤ (wrap64 (t212 + 1)) then (if t215 ≥ (wrap64 (t212 - 1)) then (if t211.size + 1 ≤ 9223372036854775807 then ((impl_Far.f kj4 (t210 ++ (⟨#[113]⟩ : ByteArray)) (t211 ++ (⟨#[113]⟩ : ByteArray))).bind fun t216 => (if t216 = t212 then (if 1 + t210.size ≤ 9223372036854775807 then (if 1 + t211.size ≤ 9223372036854775807 then ((impl_Far.f kj4 ((⟨#[113]⟩ : ByteArray) ++ t210) ((⟨#[113]⟩ : ByteArray) ++ t211)).bind fun t217 => (if t217 = t212 then ((impl_Far.f kj4 t210 (t210 ++ (⟨#[113]⟩ : ByteArray))).bind fun t218 => (some (t218 == 1))) else (some false))) else (none)) else (none)) else (some false))) else (none)) else (some false)) else (some false))) else (none)) = some r := by rw [if_neg (show ¬ (false = true) by decide)] at H; exact H
          clear H
          have H := H1
          clear H1
          by_cases c19 : t210.size + 1 ≤ 9223372036854775807
          · rw [if_pos c19] at H
            have c19b0 := eq_true c19
            have c19b1 : decide (t210.size + 1 ≤ 9223372036854775807) = true := decide_eq_true c19
            try have c19b2 : (9223372036854775807 < t210.size + 1) = False := eq_false (Nat.not_lt.2 c19)
            replace H := Option.bind_eq_some_iff.mp H
            obtain ⟨t215, A200, H⟩ := H
            replace H : (if t215 ≤ (wrap64 (t212 + 1)) then (if t215 ≥ (wrap64 (t212 - 1)) then (if t211.size + 1 ≤ 9223372036854775807 then ((impl_Far.f kj4 (t210 ++ (⟨#[113]⟩ : ByteArray)) (t211 ++ (⟨#[113]⟩ : ByteArray))).bind fun t216 => (if t216 = t212 then (if 1 + t210.size ≤ 9223372036854775807 then (if 1 + t211.size ≤ 9223372036854775807 then ((impl_Far.f kj4 ((⟨#[113]⟩ : ByteArray) ++ t210) ((⟨#[113]⟩ : ByteArray) ++ t211)).bind fun t217 => (if t217 = t212 then ((impl_Far.f kj4 t210 (t210 ++ (⟨#[113]⟩ : ByteArray))).bind fun t218 => (some (t218 == 1))) else (some false))) else (none)) else (none)) else (some false))) else (none)) else (some false)) else (some false)) = some r := H
            have A20 := Aside0.mk A200
            clear A200
            by_cases c21 : t215 ≤ (wrap64 (t212 + 1))
            · rw [if_pos c21] at H
              have c21b0 : decide (t215 ≤ (wrap64 (t212 + 1))) = true := decide_eq_true c21
              clear c21
              by_cases c22 : t215 ≥ (wrap64 (t212 - 1))
              · rw [if_pos c22] at H
                have c22b0 : decide ((wrap64 (t212 - 1)) ≤ t215) = true := decide_eq_true c22
                clear c22
                by_cases c23 : t211.size + 1 ≤ 9223372036854775807
                · rw [if_pos c23] at H
                  have c23b0 := eq_true c23
                  have c23b1 : decide (t211.size + 1 ≤ 9223372036854775807) = true := decide_eq_true c23
                  try have c23b2 : (9223372036854775807 < t211.size + 1) = False := eq_false (Nat.not_lt.2 c23)
                  replace H := Option.bind_eq_some_iff.mp H
                  obtain ⟨t216, A240, H⟩ := H
                  replace H : (if t216 = t212 then (if 1 + t210.size ≤ 9223372036854775807 then (if 1 + t211.size ≤ 9223372036854775807 then ((impl_Far.f kj4 ((⟨#[113]⟩ : ByteArray) ++ t210) ((⟨#[113]⟩ : ByteArray) ++ t211)).bind fun t217 => (if t217 = t212 then ((impl_Far.f kj4 t210 (t210 ++ (⟨#[113]⟩ : ByteArray))).bind fun t218 => (some (t218 == 1))) else (some false))) else (none)) else (none)) else (some false)) = some r := H
                  have A24 := Aside0.mk A240
                  clear A240
                  by_cases c25 : t216 = t212
                  · rw [if_pos c25] at H
                    have c25b0 : (t216 == t212) = true := beq_iff_eq.mpr c25
                    have c25b1 : (t216 != t212) = false := bne_eq_false_iff_eq.mpr c25
                    clear c25
                    by_cases c26 : 1 + t210.size ≤ 9223372036854775807
                    · rw [if_pos c26] at H
                      have c26b0 := eq_true c26
                      have c26b1 : decide (1 + t210.size ≤ 9223372036854775807) = true := decide_eq_true c26
                      try have c26b2 : (9223372036854775807 < 1 + t210.size) = False := eq_false (Nat.not_lt.2 c26)
                      by_cases c27 : 1 + t211.size ≤ 9223372036854775807
                      · rw [if_pos c27] at H
                        have c27b0 := eq_true c27
                        have c27b1 : decide (1 + t211.size ≤ 9223372036854775807) = true := decide_eq_true c27
                        try have c27b2 : (9223372036854775807 < 1 + t211.size) = False := eq_false (Nat.not_lt.2 c27)
                        replace H := Option.bind_eq_some_iff.mp H
                        obtain ⟨t217, A280, H⟩ := H
                        replace H : (if t217 = t212 then ((impl_Far.f kj4 t210 (t210 ++ (⟨#[113]⟩ : ByteArray))).bind fun t218 => (some (t218 == 1))) else (some false)) = some r := H
                        have A28 := Aside0.mk A280
                        clear A280
                        by_cases c29 : t217 = t212
                        · rw [if_pos c29] at H
                          have c29b0 : (t217 == t212) = true := beq_iff_eq.mpr c29
                          have c29b1 : (t217 != t212) = false := bne_eq_false_iff_eq.mpr c29
                          clear c29
                          replace H := Option.bind_eq_some_iff.mp H
                          obtain ⟨t218, A300, H⟩ := H
                          replace H : (some (t218 == 1)) = some r := H
                          have A30 := Aside0.mk A300
                          clear A300
                          obtain rfl := Option.some.inj H
                          go_wp2_with (first | ((with_reducible refine gate_callee (f := 7) rfl ?_); refine goesL_ (some 45) rfl rfl Try.func7 (by kernel_rfl) rfl #[.string (t210 ++ (⟨#[113]⟩ : ByteArray)), .string t211] rfl (by (try simp only [List.map_toArray, List.map_cons, List.map_nil]); first | done | rfl | (simp only [List.length_drop, List.length_take]; rfl)) ?_; (with_reducible refine (impl_Far.calls kj4 (t210 ++ (⟨#[113]⟩ : ByteArray)) t211 t215 _ A20.out).mono ?_); rintro e w31 ⟨rfl, hb⟩; refine ⟨_, rfl, ?_⟩; have n0_ := Aside0.mk (below_step (by repeat (first | (with_reducible first | exact HB.out | apply below_alloc | apply pw_below_drewN | apply below_drew1) | exact HB.out)) hb); clear HB; have HB := n0_; clear n0_; (try clear hb); (try clear hb2); (try clear hk); (try clear hi)) | (go_at_call 7; (with_reducible refine (impl_Far.calls kj4 (t210 ++ (⟨#[113]⟩ : ByteArray)) (t211 ++ (⟨#[113]⟩ : ByteArray)) t216 _ A24.out).mono ?_); rintro e w32 ⟨rfl, hb⟩; have n0_ := Aside0.mk (below_step (by repeat (first | (with_reducible first | exact HB.out | apply below_alloc | apply pw_below_drewN | apply below_drew1) | exact HB.out)) hb); clear HB; have HB := n0_; clear n0_; (try clear hb); (try clear hb2); (try clear hk); (try clear hi)) | (go_at_call 7; (with_reducible refine (impl_Far.calls kj4 ((⟨#[113]⟩ : ByteArray) ++ t210) ((⟨#[113]⟩ : ByteArray) ++ t211) t217 _ A28.out).mono ?_); rintro e w33 ⟨rfl, hb⟩; have n0_ := Aside0.mk (below_step (by repeat (first | (with_reducible first | exact HB.out | apply below_alloc | apply pw_below_drewN | apply below_drew1) | exact HB.out)) hb); clear HB; have HB := n0_; clear n0_; (try clear hb); (try clear hb2); (try clear hk); (try clear hi)) | (go_at_call 7; (with_reducible refine (impl_Far.calls kj4 t210 (t210 ++ (⟨#[113]⟩ : ByteArray)) t218 _ A30.out).mono ?_); rintro e w34 ⟨rfl, hb⟩; have n0_ := Aside0.mk (below_step (by repeat (first | (with_reducible first | exact HB.out | apply below_alloc | apply pw_below_drewN | apply below_drew1) | exact HB.out)) hb); clear HB; have HB := n0_; clear n0_; (try clear hb); (try clear hb2); (try clear hk); (try clear hi)))
                          go_ret
                          exact ⟨by first | rfl | (simp [errW_none, errW_some] <;> rfl) | (simp [*, errW_none, errW_some] <;> rfl), by repeat (first | (with_reducible first | exact HB.out | apply below_alloc | apply pw_below_drewN | apply below_drew1) | exact HB.out)⟩
                        · rw [if_neg c29] at H
                          have c29b0 : (t217 == t212) = false := beq_eq_false_iff_ne.mpr c29
                          have c29b1 : (t217 != t212) = true := bne_iff_ne.mpr c29
                          obtain rfl := Option.some.inj H
                          go_wp2_with (first | ((with_reducible refine gate_callee (f := 7) rfl ?_); refine goesL_ (some 45) rfl rfl Try.func7 (by kernel_rfl) rfl #[.string (t210 ++ (⟨#[113]⟩ : ByteArray)), .string t211] rfl (by (try simp only [List.map_toArray, List.map_cons, List.map_nil]); first | done | rfl | (simp only [List.length_drop, List.length_take]; rfl)) ?_; (with_reducible refine (impl_Far.calls kj4 (t210 ++ (⟨#[113]⟩ : ByteArray)) t211 t215 _ A20.out).mono ?_); rintro e w35 ⟨rfl, hb⟩; refine ⟨_, rfl, ?_⟩; have n0_ := Aside0.mk (below_step (by repeat (first | (with_reducible first | exact HB.out | apply below_alloc | apply pw_below_drewN | apply below_drew1) | exact HB.out)) hb); clear HB; have HB := n0_; clear n0_; (try clear hb); (try clear hb2); (try clear hk); (try clear hi)) | (go_at_call 7; (with_reducible refine (impl_Far.calls kj4 (t210 ++ (⟨#[113]⟩ : ByteArray)) (t211 ++ (⟨#[113]⟩ : ByteArray)) t216 _ A24.out).mono ?_); rintro e w36 ⟨rfl, hb⟩; have n0_ := Aside0.mk (below_step (by repeat (first | (with_reducible first | exact HB.out | apply below_alloc | apply pw_below_drewN | apply below_drew1) | exact HB.out)) hb); clear HB; have HB := n0_; clear n0_; (try clear hb); (try clear hb2); (try clear hk); (try clear hi)) | (go_at_call 7; (with_reducible refine (impl_Far.calls kj4 ((⟨#[113]⟩ : ByteArray) ++ t210) ((⟨#[113]⟩ : ByteArray) ++ t211) t217 _ A28.out).mono ?_); rintro e w37 ⟨rfl, hb⟩; have n0_ := Aside0.mk (below_step (by repeat (first | (with_reducible first | exact HB.out | apply below_alloc | apply pw_below_drewN | apply below_drew1) | exact HB.out)) hb); clear HB; have HB := n0_; clear n0_; (try clear hb); (try clear hb2); (try clear hk); (try clear hi)))
                          go_ret
                          exact ⟨by first | rfl | (simp [errW_none, errW_some] <;> rfl) | (simp [*, errW_none, errW_some] <;> rfl), by repeat (first | (with_reducible first | exact HB.out | apply below_alloc | apply pw_below_drewN | apply below_drew1) | exact HB.out)⟩
                      · rw [if_neg c27] at H
                        exact absurd H (by simp)
                    · rw [if_neg c26] at H
                      exact absurd H (by simp)
                  · rw [if_neg c25] at H
                    have c25b0 : (t216 == t212) = false := beq_eq_false_iff_ne.mpr c25
                    have c25b1 : (t216 != t212) = true := bne_iff_ne.mpr c25
                    obtain rfl := Option.some.inj H
                    go_wp2_with (first | ((with_reducible refine gate_callee (f := 7) rfl ?_); refine goesL_ (some 45) rfl rfl Try.func7 (by kernel_rfl) rfl #[.string (t210 ++ (⟨#[113]⟩ : ByteArray)), .string t211] rfl (by (try simp only [List.map_toArray, List.map_cons, List.map_nil]); first | done | rfl | (simp only [List.length_drop, List.length_take]; rfl)) ?_; (with_reducible refine (impl_Far.calls kj4 (t210 ++ (⟨#[113]⟩ : ByteArray)) t211 t215 _ A20.out).mono ?_); rintro e w38 ⟨rfl, hb⟩; refine ⟨_, rfl, ?_⟩; have n0_ := Aside0.mk (below_step (by repeat (first | (with_reducible first | exact HB.out | apply below_alloc | apply pw_below_drewN | apply below_drew1) | exact HB.out)) hb); clear HB; have HB := n0_; clear n0_; (try clear hb); (try clear hb2); (try clear hk); (try clear hi)) | (go_at_call 7; (with_reducible refine (impl_Far.calls kj4 (t210 ++ (⟨#[113]⟩ : ByteArray)) (t211 ++ (⟨#[113]⟩ : ByteArray)) t216 _ A24.out).mono ?_); rintro e w39 ⟨rfl, hb⟩; have n0_ := Aside0.mk (below_step (by repeat (first | (with_reducible first | exact HB.out | apply below_alloc | apply pw_below_drewN | apply below_drew1) | exact HB.out)) hb); clear HB; have HB := n0_; clear n0_; (try clear hb); (try clear hb2); (try clear hk); (try clear hi)))
                    go_ret
                    exact ⟨by first | rfl | (simp [errW_none, errW_some] <;> rfl) | (simp [*, errW_none, errW_some] <;> rfl), by repeat (first | (with_reducible first | exact HB.out | apply below_alloc | apply pw_below_drewN | apply below_drew1) | exact HB.out)⟩
                · rw [if_neg c23] at H
                  exact absurd H (by simp)
              · rw [if_neg c22] at H
                have c22b0 : decide ((wrap64 (t212 - 1)) ≤ t215) = false := decide_eq_false c22
                clear c22
                obtain rfl := Option.some.inj H
                go_wp2_with (first | ((with_reducible refine gate_callee (f := 7) rfl ?_); refine goesL_ (some 45) rfl rfl Try.func7 (by kernel_rfl) rfl #[.string (t210 ++ (⟨#[113]⟩ : ByteArray)), .string t211] rfl (by (try simp only [List.map_toArray, List.map_cons, List.map_nil]); first | done | rfl | (simp only [List.length_drop, List.length_take]; rfl)) ?_; (with_reducible refine (impl_Far.calls kj4 (t210 ++ (⟨#[113]⟩ : ByteArray)) t211 t215 _ A20.out).mono ?_); rintro e w40 ⟨rfl, hb⟩; refine ⟨_, rfl, ?_⟩; have n0_ := Aside0.mk (below_step (by repeat (first | (with_reducible first | exact HB.out | apply below_alloc | apply pw_below_drewN | apply below_drew1) | exact HB.out)) hb); clear HB; have HB := n0_; clear n0_; (try clear hb); (try clear hb2); (try clear hk); (try clear hi)))
                go_ret
                exact ⟨by first | rfl | (simp [errW_none, errW_some] <;> rfl) | (simp [*, errW_none, errW_some] <;> rfl), by repeat (first | (with_reducible first | exact HB.out | apply below_alloc | apply pw_below_drewN | apply below_drew1) | exact HB.out)⟩
            · rw [if_neg c21] at H
              have c21b0 : decide (t215 ≤ (wrap64 (t212 + 1))) = false := decide_eq_false c21
              clear c21
              obtain rfl := Option.some.inj H
              go_wp2_with (first | ((with_reducible refine gate_callee (f := 7) rfl ?_); refine goesL_ (some 45) rfl rfl Try.func7 (by kernel_rfl) rfl #[.string (t210 ++ (⟨#[113]⟩ : ByteArray)), .string t211] rfl (by (try simp only [List.map_toArray, List.map_cons, List.map_nil]); first | done | rfl | (simp only [List.length_drop, List.length_take]; rfl)) ?_; (with_reducible refine (impl_Far.calls kj4 (t210 ++ (⟨#[113]⟩ : ByteArray)) t211 t215 _ A20.out).mono ?_); rintro e w41 ⟨rfl, hb⟩; refine ⟨_, rfl, ?_⟩; have n0_ := Aside0.mk (below_step (by repeat (first | (with_reducible first | exact HB.out | apply below_alloc | apply pw_below_drewN | apply below_drew1) | exact HB.out)) hb); clear HB; have HB := n0_; clear n0_; (try clear hb); (try clear hb2); (try clear hk); (try clear hi)))
              go_ret
              exact ⟨by first | rfl | (simp [errW_none, errW_some] <;> rfl) | (simp [*, errW_none, errW_some] <;> rfl), by repeat (first | (with_reducible first | exact HB.out | apply below_alloc | apply pw_below_drewN | apply below_drew1) | exact HB.out)⟩
          · rw [if_neg c19] at H
            exact absurd H (by simp)

/-- THE ONE PURE STATEMENT of laws_FnFarOne: yours. -/
def laws_FnFarOne.Pure : Prop := ∀ (l0 : List Int), l0.length ≤ maxLen → l0.length * 1 ≤ 140737488351232 → (∀ x ∈ l0, (Lit.int .u8 x).wf = true) → ∃ k, laws_FnFarOne.f k l0 = some true
theorem laws_FnFarOne.walk (P : laws_FnFarOne.Pure) (a0 : Option Addr) (len0 cap0 : Nat) (z0 : List Int) (w : World) (w0 : (a0 = none ∧ len0 = 0 ∧ cap0 = 0 ∧ z0 = []) ∨ ∃ x, a0 = some x ∧ len0 ≤ cap0 ∧ cap0 ≤ maxLen ∧ z0.length = cap0 ∧ (∀ i, i < z0.length → w.cell? (x.add i) = some (.int .u8 (z0.getD i 0))) ∧ ∀ n ∈ z0, (Lit.int .u8 n).wf = true) (y0 : len0 * 1 ≤ 140737488351232) :
    Calls Try.prog 4 #[.slice a0 len0 cap0] w fun e w' => e = .returned (.bool true) ∧ Below w.heap.size w w' := by
  obtain ⟨l0, rfl, hr0, hm0, hw0, hc0⟩ := ReadsInt.ofRowC w0
  obtain ⟨k, h⟩ := P l0 hm0 y0 hw0
  refine (laws_FnFarOne.calls k _ _ l0 true w (Kd.C_of_reads (d := (0 : Int)) (h1 := fun _ => rfl) hr0) hc0 h).mono ?_
  rintro e w' ⟨rfl, hd⟩
  exact ⟨rfl, hd⟩

end Go.Proofs.Ytphnkoicfehalaa.PFnFarOne

/- The law 'FnExactMark': whatever the text and the list of texts, it returns true and leaves them as they were; the package's list of stop words holds what the program's text lays into it (the tied card). No other condition. -/
import Derived.Test.YtphnkoicfehalaaDoorRows
import Derived.Test.YtphnkoicfehalaaDoorTie
import Derived.Test.YtphnkoicfehalaaDoorCards
import Derived.Test.YtphnkoicfehalaaDoorGlob
import Derived.Test.YtphnkoicfehalaaDoorStrs
import Derived.Test.YtphnkoicfehalaaDoorPFnExactMarkx4
import Derived.Test.YtphnkoicfehalaaDoorPureFnExactMark
import Derived.WalkKit
import Derived.ProofKit
import Derived.OpenShut
import Derived.ShutString
import Derived.ChangeMaps5
import Derived.ChangeOld
import Derived.Below
import Derived.SizedLaws
import Derived.ChangeVars
import Derived.LaidLaws
import Derived.SevenTiedAt
import Derived.Test.YtphnkoicfehalaaDoorWSized
namespace Go.Proofs.YtphnkoicfehalaaDoor.fnExactMark
open Go.ChangeShapes Go.WideShapes Go.ChangeAt Go.RowKit
open Go.ChangeMaps (open_string shut_string)
theorem own : ownKnob Tryd.prog.godebug = none := by kernel_rfl
theorem laidOut : laidOutB Tryd.prog = true := by kernel_rfl
set_option maxRecDepth 100000 in
theorem lifted (os : Os) (started : os.Started) (H : Type) (enc : TypeId × Value → H) :
    ReturnsInHanded {} Tryd.checked os 3 .any (fun w args => (Rows.fnExactMarkSpec.pre enc Tryd.prog Tryd.f3 Rows.fnExactMarkRow.domain false w args ∧ laidMetH Tryd.prog X.stopsLaid w) ∧ sizedMet enc Tryd.prog Tryd.f3 (OpenSpec.ofChange Rows.fnExactMarkSpec) false w args)
      (Rows.fnExactMarkSpec.post enc Tryd.prog Tryd.f3 false true false false) := by
  refine returnsInHanded_of_change_and (C := Tryd.checked) (X := fun w _ => laidMetH Tryd.prog X.stopsLaid w) (fun _ _ _ hh h => h.of_heap hh) own started (by kernel_rfl) Tryd.func3
    (ChangeSpec.witness_shaped (enc := enc) (C := Tryd.checked) (os := os) (X := fun w _ => laidMetH Tryd.prog X.stopsLaid w) false (World.doorLaid Tryd.prog 400 os) #[.string ⟨#[]⟩, .slice none 0 0] 8 rfl (World.shaped_of_RefB (by kernel_rfl) (by kernel_rfl)) (by kernel_rfl) (by kernel_rfl) (by kernel_rfl) (X.door_met os _)) ?_
  intro W base args ds gs before hval0 hW hcnd hsz0 hL _
  have hsz : (DataW.weightsEach Tryd.prog (Tryd.f3.params.toList ++ Rows.fnExactMarkSpec.plain.varTypes Tryd.prog) (ds ++ gs)).all (· ≤ reachBytes) = true := hsz0
  have hval : ∀ (j : Nat) t v, Tryd.f3.params[j]? = some t → args[j]? = some v → Value.okWide Tryd.prog W .any base t v := hval0
  have hW' := hW
  obtain ⟨p, q, hA0, hV0, rfl, hfz, hnd⟩ := hW
  have hA : DataW.TrodAll enc Tryd.prog W 0 (fun _ => true) true Tryd.f3.params.toList args.toList ds p := hA0
  have hV : DataW.TrodVars enc Tryd.prog W (fun _ => true) ["loop.example/spandrel/impl.stops"] gs q := hV0
  rw [Tryd.params3] at hA hval hsz
  obtain ⟨v0, vs0, d0, ds0, p0, q0, hargs, rfl, rfl, h0, r0⟩ := trodAll_cons hA
  obtain ⟨v1, vs1, d1, ds1, p1, q1, rfl, rfl, rfl, h1, r1⟩ := trodAll_cons r0
  obtain ⟨rfl, rfl, rfl⟩ := trodAll_nil r1
  obtain rfl : args = #[v0, v1] := by cases args; simp_all
  obtain ⟨s, rfl, rfl, rfl, ws⟩ := open_string Tryd.underlying9 (hval 0 9 v0 rfl rfl) h0
  obtain ⟨a1, len1, cap1, rfl⟩ := okWide_slice Tryd.underlying22 (hval 1 22 v1 rfl rfl)
  have k1 := h1
  have lt1 : ∀ x ∈ p1, x.block < W.heap.size := by obtain ⟨m, hm⟩ := k1; exact DataW.trod_lt m _ _ _ hm
  obtain ⟨ss, rfl, hl1, hm1, hr1, hz1⟩ : ∃ ss : List ByteArray, len1 = ss.length ∧ ss.length ≤ cap1 ∧ cap1 ≤ maxLen ∧ Go.Proofs.YtphnkoicfehalaaDoorW.PrintWords.Kd.C Go.Proofs.YtphnkoicfehalaaDoorW.PrintWords.Kd.string W a1 ss.length ss ∧ ∀ t ∈ ss, t.size ≤ 9223372036854775807 := by
    obtain ⟨fuel, hf⟩ := h1
    obtain ⟨A, cap, ss, hcs, g1, g2, g3, g4⟩ := X.open_strs hf
    simp [Value.cells] at hcs
    obtain ⟨rfl, rfl, rfl⟩ := hcs
    exact ⟨ss, rfl, g1, g2, g3, g4⟩
  clear hA0 hval0 hsz0 hsz
  obtain ⟨g1, rfl⟩ : ∃ g, gs = [g] := by
    obtain ⟨_, _, _, _, d, _, e, _⟩ := trodVars_one hV
    exact ⟨d, e⟩
  obtain ⟨k, hk⟩ := Pure.FnExactMark s ss (by omega) hz1
  refine (PFnExactMark.laws_FnExactMark.calls k s a1 cap1 ss true W hr1 hl1 (X.glob_of hL) hk).mono fun e W' ⟨he, bel⟩ => ?_
  subst he
  exact ⟨_, rfl, _, _, _, [], _, _, hW', trodAll_mk1 (shut_bool Tryd.underlying4 _), (trodAll_cons_mk (shut_string Tryd.underlying9 ws) (trodAll_cons_mk (Below.trod laidOut (by kernel_rfl) (of_decide_eq_true (by kernel_rfl)) k1 bel lt1) trodAll_mk0)), X.vars_below laidOut bel hV, bel.frame _, fun h => by cases h⟩
theorem over : Rows.fnExactMarkRow.holds Tryd.pinned (OpenSpec.ofChange Rows.fnExactMarkSpec) :=
  OpenClaim.holds_of_wide 3 Tryd.f3 rfl rfl rfl rfl rfl rfl rfl ⟨rfl, rfl, rfl, rfl, rfl⟩ rfl rfl rfl rfl rfl (by kernel_rfl) Tryd.func3 (by kernel_rfl)
    (of_decide_eq_true (by kernel_rfl)) (by unfold Func.isWrapper; first | (rw [if_pos (by decide +kernel)]; kernel_rfl) | (rw [if_neg (by decide +kernel)]; exact ⟨rfl, rfl⟩))
    (fun os started H enc _ => lifted os started H enc)
theorem proved : Rows.FnExactMarkCardSaid :=
  Claim7.holds_tied_plain_at .later [] [.widerDeep] true (true, "9b82936279a998ab2bd6d80a36845d7476036c967c41f6ac196d488e4144c4e0") false
    over (fun _ h => by cases h) (by kernel_rfl) (fun _ h => by cases h) fnExactMark_row_tie rfl ⟨rfl, rfl⟩ (by kernel_rfl) rfl
    (fun f fn hf hfn => by
      obtain rfl : f = 3 := Option.some.inj ((show Tryd.prog.funcNamed "loop.example/spandrel/laws.FnExactMark" = some 3 by kernel_rfl).symm.trans hf) |>.symm
      obtain rfl : fn = Tryd.f3 := (Option.some.inj (Tryd.func3.symm.trans hfn)).symm
      exact ⟨by kernel_rfl, fun j t ht => by
        rw [Tryd.params3] at ht
        have hm : t ∈ [9, 22] := by simpa using Array.mem_of_getElem? ht
        have hall : ([9, 22].all fun u => !Tryd.prog.wantsStandIn u) = true := by kernel_rfl
        exact (show Tryd.prog.wantsStandIn t = false by simpa using List.all_eq_true.1 hall t hm)⟩)
    (by kernel_rfl)
#print axioms proved
end Go.Proofs.YtphnkoicfehalaaDoor.fnExactMark
namespace Go.Proofs.YtphnkoicfehalaaDoor
/-- The card, under a short name, for the claim. -/
theorem fnExactMark_holds : Rows.FnExactMarkCardSaid := fnExactMark.proved
end Go.Proofs.YtphnkoicfehalaaDoor

/- The law 'FnSnip': whatever it is handed, it returns true and leaves its arguments as they were; the listed variables of Go's library hold what the library's text lays into them (the tied card). No other condition. -/
import Derived.Test.YtphnkoicfehalaaDoorRows
import Derived.Test.YtphnkoicfehalaaDoorTie
import Derived.Test.YtphnkoicfehalaaDoorCards
import Derived.Test.YtphnkoicfehalaaDoorPSnip
import Derived.Test.YtphnkoicfehalaaDoorGlobE
import Derived.WalkKit
import Derived.ProofKit
import Derived.OpenShut
import Derived.ShutString
import Derived.ChangeMaps5
import Derived.ChangeOld
import Derived.Below
import Derived.SizedLaws
import Derived.ChangeVars
import Derived.LaidLaws
import Derived.Lay
import Derived.SevenTiedAt
set_option linter.unusedVariables false
namespace Go.Proofs.YtphnkoicfehalaaDoor.fnSnip
open Go.ChangeShapes Go.WideShapes Go.ChangeAt Go.RowKit
open Go.E (arg_ok' law_true law_trueG lay_ok tlist Good' R)
theorem own : ownKnob Tryd.prog.godebug = none := by kernel_rfl
theorem laidOut : laidOutB Tryd.prog = true := by kernel_rfl
abbrev laidL : List (String × DataW Unit) := XE.stopsLaid
set_option maxRecDepth 100000 in
theorem lifted (os : Os) (started : os.Started) (H : Type) (enc : TypeId × Value → H) :
    ReturnsInHanded {} Tryd.checked os 8 .any (fun w args => (Rows.fnSnipSpec.pre enc Tryd.prog Tryd.f8 Rows.fnSnipRow.domain false w args ∧ laidMetH Tryd.prog laidL w) ∧ sizedMet enc Tryd.prog Tryd.f8 (OpenSpec.ofChange Rows.fnSnipSpec) false w args)
      (Rows.fnSnipSpec.post enc Tryd.prog Tryd.f8 false true false false) := by
  refine returnsInHanded_of_change_and (C := Tryd.checked) (X := fun w _ => laidMetH Tryd.prog laidL w) (fun _ _ _ hh h => h.of_heap hh) own started (by kernel_rfl) Tryd.func8
    (ChangeSpec.witness_shaped (enc := enc) (C := Tryd.checked) (os := os) (X := fun w _ => laidMetH Tryd.prog laidL w) false (World.doorLaid Tryd.prog 400 os) #[.slice none 0 0] 8 rfl (World.shaped_of_RefB (by kernel_rfl) (by kernel_rfl)) (by kernel_rfl) (by kernel_rfl) (by kernel_rfl) (XE.door_met os _)) ?_
  intro W base args ds gs before hval0 hW hcnd hsz0 hL _
  have hval : ∀ (j : Nat) t v, Tryd.f8.params[j]? = some t → args[j]? = some v → Value.okWide Tryd.prog W .any base t v := hval0
  have hW' := hW
  obtain ⟨p, q, hA0, hV0, rfl, hfz, hnd⟩ := hW
  have hA : DataW.TrodAll enc Tryd.prog W 0 (fun _ => true) true Tryd.f8.params.toList args.toList ds p := hA0
  have hV : DataW.TrodVars enc Tryd.prog W (fun _ => true) ["loop.example/spandrel/impl.stops"] gs q := hV0
  rw [Tryd.params8] at hA hval
  obtain ⟨v0, vs0, d0, ds0, p0, q0, hargs, rfl, rfl, h0, r0⟩ := trodAll_cons hA
  obtain ⟨rfl, rfl, rfl⟩ := trodAll_nil r0
  obtain rfl : args = #[v0] := by cases args; simp_all
  obtain ⟨g1, rfl⟩ : ∃ g, gs = [g] := by
    obtain ⟨_, _, _, _, d, _, e, _⟩ := trodVars_one hV
    exact ⟨d, e⟩
  have lt0 : ∀ x ∈ p0, x.block < W.heap.size := by obtain ⟨m, hm⟩ := h0; exact DataW.trod_lt m _ _ _ hm
  obtain ⟨x0, y0, z0⟩ := arg_ok' lay_ok (T := [5, 30]) (by kernel_rfl) (t := 30) (τ := .sl (.int .u8)) (by kernel_rfl) (by kernel_rfl) (hval 0 30 v0 rfl rfl) h0
  have hk : Go.E.laws_FnSnip x0 = some true := Go.E.snip' x0 z0
  have hc := law_trueG (w := W) (B := fun b => b = 0) (fun b h => h ▸ (XE.globE hL).1) (XE.globE hL).2 (vs := #[v0]) (args := [Go.E.V.val (.sl (.int .u8)) x0]) (res := { v := .val .bool true }) Go.E.laws_FnSnip.sat (by
      show Go.E.bindO (Go.E.laws_FnSnip x0) _ = _
      rw [hk]; rfl) rfl rfl ⟨y0 _ _, trivial⟩ Tryd.func8 (by kernel_rfl) (by kernel_rfl)
  refine hc.mono fun e W' ⟨he, bel⟩ => ?_
  subst he
  exact ⟨_, rfl, _, _, _, [], _, _, hW', trodAll_mk1 (shut_bool Tryd.underlying4 _), (trodAll_cons_mk (Below.trod laidOut (by kernel_rfl) (of_decide_eq_true (by kernel_rfl)) h0 bel lt0) trodAll_mk0), XE.vars_below laidOut bel hV, bel.frame _, fun h => by cases h⟩
theorem over : Rows.fnSnipRow.holds Tryd.pinned (OpenSpec.ofChange Rows.fnSnipSpec) :=
  OpenClaim.holds_of_wide 8 Tryd.f8 rfl rfl rfl rfl rfl rfl rfl ⟨rfl, rfl, rfl, rfl, rfl⟩ rfl rfl rfl rfl rfl (by kernel_rfl) Tryd.func8 (by kernel_rfl)
    (of_decide_eq_true (by kernel_rfl)) (by unfold Func.isWrapper; first | (rw [if_pos (by decide +kernel)]; kernel_rfl) | (rw [if_neg (by decide +kernel)]; exact ⟨rfl, rfl⟩))
    (fun os started H enc _ => lifted os started H enc)
theorem proved : Rows.FnSnipCardSaid :=
  Claim7.holds_tied_plain_at .later [] [.widerDeep] true (true, "9b82936279a998ab2bd6d80a36845d7476036c967c41f6ac196d488e4144c4e0") false
    over (fun _ h => by cases h) (by kernel_rfl) (fun _ h => by cases h) fnSnip_row_tie rfl ⟨rfl, rfl⟩ (by kernel_rfl) rfl
    (fun f fn hf hfn => by
      obtain rfl : f = 8 := Option.some.inj ((show Tryd.prog.funcNamed "loop.example/spandrel/laws.FnSnip" = some 8 by kernel_rfl).symm.trans hf) |>.symm
      obtain rfl : fn = Tryd.f8 := (Option.some.inj (Tryd.func8.symm.trans hfn)).symm
      exact ⟨by kernel_rfl, fun j t ht => by
        rw [Tryd.params8] at ht
        have hm : t ∈ [30] := by simpa using Array.mem_of_getElem? ht
        have hall : ([30].all fun u => !Tryd.prog.wantsStandIn u) = true := by kernel_rfl
        exact (show Tryd.prog.wantsStandIn t = false by simpa using List.all_eq_true.1 hall t hm)⟩)
    (by kernel_rfl)
#print axioms proved
end Go.Proofs.YtphnkoicfehalaaDoor.fnSnip
namespace Go.Proofs.YtphnkoicfehalaaDoor
/-- The card, under a short name, for the claim. -/
theorem fnSnip_holds : Rows.FnSnipCardSaid := fnSnip.proved
end Go.Proofs.YtphnkoicfehalaaDoor

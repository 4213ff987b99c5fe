/- The law 'FnExactServerNew': whatever it is handed, it returns true and leaves its arguments as they were. No condition. -/
import Derived.Test.YtapdjooadgdbaaaRows
import Derived.Test.YtapdjooadgdbaaaPNewB
import Derived.WalkKit
import Derived.ProofKit
import Derived.OpenShut
import Derived.ShutString
import Derived.ChangeMaps5
import Derived.ChangeOld
import Derived.Below
import Derived.SizedLaws
import Derived.ChangeVars
import Derived.LaidLaws
import Derived.Lay
import Derived.SevenTiedAt
set_option linter.unusedVariables false
namespace Go.Proofs.Ytapdjooadgdbaaa.fnExactServerNew
open Go.ChangeShapes Go.WideShapes Go.ChangeAt Go.RowKit
open Go.E (arg_ok' law_true law_trueG lay_ok tlist Good' R)
theorem own : ownKnob Try.prog.godebug = none := by kernel_rfl
theorem laidOut : laidOutB Try.prog = true := by kernel_rfl
set_option maxRecDepth 100000 in
theorem lifted (os : Os) (started : os.Started) (H : Type) (enc : TypeId × Value → H) :
    ReturnsInHanded {} Try.checked os 3 .any (Rows.fnExactServerNewSpec.pre6 enc Try.prog Try.f3 Rows.fnExactServerNewRow.domain false) (Rows.fnExactServerNewSpec.post enc Try.prog Try.f3 false true false false) := by
  refine returnsInHanded_of_change_sized (C := Try.checked) own started (by kernel_rfl) Try.func3
    (ChangeSpec.witness6 (enc := enc) (C := Try.checked) false ⟨#[], #[.slice none 0 0], []⟩ 8 (by kernel_rfl) (by kernel_rfl) (by kernel_rfl) (by kernel_rfl)) ?_
  intro W base args ds gs before hval0 hW hcnd hsz0 _
  have hval : ∀ (j : Nat) t v, Try.f3.params[j]? = some t → args[j]? = some v → Value.okWide Try.prog W .any base t v := hval0
  have hW' := hW
  obtain ⟨p, q, hA0, hV, rfl, hfz, hnd⟩ := hW
  have hA : DataW.TrodAll enc Try.prog W 0 (fun _ => true) true Try.f3.params.toList args.toList ds p := hA0
  rw [Try.params3] at hA hval
  obtain ⟨v0, vs0, d0, ds0, p0, q0, hargs, rfl, rfl, h0, r0⟩ := trodAll_cons hA
  obtain ⟨rfl, rfl, rfl⟩ := trodAll_nil r0
  obtain rfl : args = #[v0] := by cases args; simp_all
  obtain ⟨rfl, rfl⟩ := trodVars_none hV
  have lt0 : ∀ x ∈ p0, x.block < W.heap.size := by obtain ⟨m, hm⟩ := h0; exact DataW.trod_lt m _ _ _ hm
  obtain ⟨x0, y0, z0⟩ := arg_ok' lay_ok (T := [3, 9, 22, 43]) (by kernel_rfl) (t := 22) (τ := .sl (.pr .str (.pr (.int .i64) (.int .i64)))) (by kernel_rfl) (by kernel_rfl) (hval 0 22 v0 rfl rfl) h0
  have hk : Go.E.laws_FnExactServerNew x0 = some true := Go.E.exactServerNew' x0 z0
  have hc := law_true (w := W) (vs := #[v0]) (args := [Go.E.V.val (.sl (.pr .str (.pr (.int .i64) (.int .i64)))) x0]) (res := { v := .val .bool true }) Go.E.laws_FnExactServerNew.sat (by
      show Go.E.bindO (Go.E.laws_FnExactServerNew x0) _ = _
      rw [hk]; rfl) rfl rfl ⟨y0 _ _, trivial⟩ Try.func3 (by kernel_rfl) (by kernel_rfl)
  refine hc.mono fun e W' ⟨he, bel⟩ => ?_
  subst he
  exact ⟨_, rfl, _, _, _, [], _, _, hW', trodAll_mk1 (shut_bool Try.underlying4 _), (trodAll_cons_mk (Below.trod laidOut (by kernel_rfl) (of_decide_eq_true (by kernel_rfl)) h0 bel lt0) trodAll_mk0), rfl, bel.frame _, fun h => by cases h⟩
theorem over : Rows.fnExactServerNewRow.holds Try.pinned (OpenSpec.ofChange Rows.fnExactServerNewSpec) :=
  OpenClaim.holds_of_wide 3 Try.f3 rfl rfl rfl rfl rfl rfl rfl ⟨rfl, rfl, rfl, rfl, rfl⟩ rfl rfl rfl rfl rfl (by kernel_rfl) Try.func3 (by kernel_rfl)
    (of_decide_eq_true (by kernel_rfl)) (by unfold Func.isWrapper; first | (rw [if_pos (by decide +kernel)]; kernel_rfl) | (rw [if_neg (by decide +kernel)]; exact ⟨rfl, rfl⟩))
    (fun os started H enc _ => lifted os started H enc)
theorem proved : Rows.FnExactServerNewSaid := over
#print axioms proved
end Go.Proofs.Ytapdjooadgdbaaa.fnExactServerNew
namespace Go.Proofs.Ytapdjooadgdbaaa
/-- The row, under a short name, for the claim. -/
theorem fnExactServerNew_holds : Rows.FnExactServerNewSaid := fnExactServerNew.proved
end Go.Proofs.Ytapdjooadgdbaaa

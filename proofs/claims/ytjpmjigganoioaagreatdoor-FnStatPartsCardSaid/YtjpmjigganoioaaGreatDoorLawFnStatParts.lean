/- The law 'FnStatParts': whatever it is handed, it returns true and leaves its arguments as they were; the listed variables of Go's library hold what the library's text lays into them (the tied card). No other condition. -/
import Derived.Test.YtjpmjigganoioaaGreatDoorRows
import Derived.Test.YtjpmjigganoioaaGreatDoorTie
import Derived.Test.YtjpmjigganoioaaGreatDoorCards
import Derived.Test.YtjpmjigganoioaaGreatDoorPStat
import Derived.Test.YtjpmjigganoioaaGreatDoorGlobF
import Derived.Test.YtjpmjigganoioaaGreatDoorFacts
import Derived.WalkKit
import Derived.ProofKit
import Derived.OpenShut
import Derived.ShutString
import Derived.ChangeMaps5
import Derived.ChangeOld
import Derived.Below
import Derived.SizedLaws
import Derived.ChangeVars
import Derived.LaidLaws
import Derived.Lay
import Derived.SevenTiedAt
set_option linter.unusedVariables false
namespace Go.Proofs.YtjpmjigganoioaaGreatDoor.fnStatParts
open Go.ChangeShapes Go.WideShapes Go.ChangeAt Go.RowKit
open Go.E (arg_ok' law_true law_trueG lay_ok tlist Good' R)
theorem own : ownKnob Tryz.prog.godebug = none := by kernel_rfl
theorem laidOut : laidOutB Tryz.prog = true := by kernel_rfl
abbrev laidL : List (String × DataW Unit) := Rows.fnStatPartsRow.laid
set_option maxRecDepth 100000 in
theorem lifted (os : Os) (started : os.Started) (H : Type) (enc : TypeId × Value → H) :
    ReturnsInHanded {} Tryz.checked os 3 .any (fun w args => (Rows.fnStatPartsSpec.pre enc Tryz.prog Tryz.f3 Rows.fnStatPartsRow.domain false w args ∧ laidMetH Tryz.prog laidL w) ∧ sizedMet enc Tryz.prog Tryz.f3 (OpenSpec.ofChange Rows.fnStatPartsSpec) false w args)
      (Rows.fnStatPartsSpec.post enc Tryz.prog Tryz.f3 false true false false) := by
  refine returnsInHanded_of_change_and (C := Tryz.checked) (X := fun w _ => laidMetH Tryz.prog laidL w) (fun _ _ _ hh h => h.of_heap hh) own started (by kernel_rfl) Tryz.func3
    (ChangeSpec.witness_shaped (enc := enc) (C := Tryz.checked) (os := os) (X := fun w _ => laidMetH Tryz.prog laidL w) false (World.laidAll Tryz.prog os laidL) #[.slice none 0 0] 8 (World.laidAll_os _ _ _)
      (World.shaped_of_ZipB (by kernel_rfl) (by kernel_rfl)) (by kernel_rfl) (by kernel_rfl) (by kernel_rfl)
      (by rw [MakeChecks.laidMetH_plain _ _ _ (by kernel_rfl)]; exact laidMet_laidAll _ (by kernel_rfl) (by kernel_rfl))) ?_
  intro W base args ds gs before hval0 hW hcnd hsz0 hL _
  have hval : ∀ (j : Nat) t v, Tryz.f3.params[j]? = some t → args[j]? = some v → Value.okWide Tryz.prog W .any base t v := hval0
  have hW' := hW
  obtain ⟨p, q, hA0, hV0, rfl, hfz, hnd⟩ := hW
  have hA : DataW.TrodAll enc Tryz.prog W 0 (fun _ => true) true Tryz.f3.params.toList args.toList ds p := hA0
  have hV : DataW.TrodVars enc Tryz.prog W (fun _ => true) ["loop.example/spandrel/impl.stops"] gs q := hV0
  rw [Tryz.params3] at hA hval
  obtain ⟨v0, vs0, d0, ds0, p0, q0, hargs, rfl, rfl, h0, r0⟩ := trodAll_cons hA
  obtain ⟨rfl, rfl, rfl⟩ := trodAll_nil r0
  obtain rfl : args = #[v0] := by cases args; simp_all
  obtain ⟨g1, rfl⟩ : ∃ g, gs = [g] := by
    obtain ⟨_, _, _, _, d, _, e, _⟩ := trodVars_one hV
    exact ⟨d, e⟩
  have lt0 : ∀ x ∈ p0, x.block < W.heap.size := by obtain ⟨m, hm⟩ := h0; exact DataW.trod_lt m _ _ _ hm
  obtain ⟨x0, y0, z0⟩ := arg_ok' lay_ok (T := [5, 22]) (by kernel_rfl) (t := 22) (τ := .sl (.int .u8)) (by kernel_rfl) (by kernel_rfl) (hval 0 22 v0 rfl rfl) h0
  have hk : Go.E.laws_FnStatParts x0 = some true := Go.E.statParts' x0 z0
  have hG := XE.globF (W := W) (by rw [MakeChecks.laidMetH_plain _ _ _ (by kernel_rfl)] at hL; exact hL)
  have hc := law_trueG (w := W) (B := XE.BG) hG.1 hG.2 (vs := #[v0]) (args := [Go.E.V.val (.sl (.int .u8)) x0]) (res := { v := .val .bool true }) Go.E.laws_FnStatParts.sat (by
      show Go.E.bindO (Go.E.laws_FnStatParts x0) _ = _
      rw [hk]; rfl) rfl rfl rfl ⟨y0 _ _, trivial⟩ Tryz.func3 (by kernel_rfl) (by kernel_rfl)
  refine hc.mono fun e W' ⟨he, bel⟩ => ?_
  subst he
  exact ⟨_, rfl, _, _, _, [], _, _, hW', trodAll_mk1 (shut_bool Tryz.underlying4 _), (trodAll_cons_mk (Below.trod laidOut (by kernel_rfl) (of_decide_eq_true (by kernel_rfl)) h0 bel lt0) trodAll_mk0), XE.vars_below laidOut bel hV, bel.frame _, fun h => by cases h⟩
theorem l10 : (Rows.fnStatPartsRow.inPlace == Tryz.pinned.checked.prog.inPlace 3) = true := by kernel_rfl
theorem l11 : (Rows.fnStatPartsRow.unfollowed == Tryz.pinned.checked.prog.unfollowed 3) = true := by kernel_rfl
theorem l12 : (Rows.fnStatPartsRow.recurses == Tryz.pinned.checked.prog.recurses 3) = true := by kernel_rfl
theorem l13 : (Rows.fnStatPartsRow.named == Tryz.pinned.checked.prog.varsNamed 3) = true := by kernel_rfl
theorem closed : joinedFacts Tryz.pinned.checked.prog 3 Tryz.f3 Rows.fnStatPartsSpec Rows.fnStatPartsRow = true :=
  XF.joined_mk (by kernel_rfl) XF.p2 XF.p3 (by kernel_rfl) (by kernel_rfl) (by kernel_rfl) XF.p7 (by kernel_rfl) XF.p9 l10 l11 l12 l13 (by kernel_rfl) (by kernel_rfl) (by kernel_rfl) (by kernel_rfl) (by kernel_rfl) (by kernel_rfl) (by kernel_rfl) (by kernel_rfl) (by kernel_rfl) XF.p23 (by kernel_rfl) XF.p25 XF.p26 XF.p27 (by kernel_rfl) (by kernel_rfl) (by kernel_rfl) (by kernel_rfl) (by kernel_rfl)
theorem named : Tryz.pinned.checked.prog.funcNamed Rows.fnStatPartsRow.func = some 3 := by kernel_rfl
theorem inst : Tryz.f3.isInstance Tryz.pinned.checked.prog Rows.fnStatPartsRow.origin Rows.fnStatPartsRow.targs := of_decide_eq_true (by kernel_rfl)
theorem wrap : Tryz.f3.isWrapper Tryz.pinned.checked.prog Rows.fnStatPartsRow.wrapper Rows.fnStatPartsRow.mainSum := by unfold Func.isWrapper; first | (rw [if_pos (by decide +kernel)]; kernel_rfl) | (rw [if_neg (by decide +kernel)]; exact ⟨rfl, rfl⟩)
theorem over : Rows.fnStatPartsRow.holds Tryz.pinned (OpenSpec.ofChange Rows.fnStatPartsSpec) :=
  OpenClaim.holds_of_wide 3 Tryz.f3 rfl rfl rfl rfl rfl rfl rfl ⟨rfl, rfl, rfl, rfl, rfl⟩ rfl rfl rfl rfl rfl named Tryz.func3 closed inst wrap
    (fun os started H enc _ => lifted os started H enc)
theorem byText : Rows.fnStatPartsRow.wfByText (OpenSpec.ofChange Rows.fnStatPartsSpec) = true := by kernel_rfl
theorem mainIs : Tryz.pinned.checked.prog.mainIs = some (true, ("4a782c2f368950d817e1e268c9b08613cd0363d6349d25addf8c7321d90e9e69" : String).toList) := by kernel_rfl
theorem goes : false = Rows.fnStatPartsRow.goesBy Tryz.pinned.checked.prog := by kernel_rfl
theorem proved : Rows.FnStatPartsCardSaid :=
  Claim7.holds_tied_plain_at .later [] [.data, .data, .data, .data, .sentinel, .sentinel, .widerDeep, .pinned] true (true, "4a782c2f368950d817e1e268c9b08613cd0363d6349d25addf8c7321d90e9e69") true
    over (fun _ h => by cases h) byText (fun _ h => by cases h) fnStatParts_row_tie rfl ⟨rfl, rfl⟩ mainIs rfl
    (fun f fn hf hfn => by
      obtain rfl : f = 3 := Option.some.inj ((show Tryz.prog.funcNamed "loop.example/spandrel/laws.FnStatParts" = some 3 by kernel_rfl).symm.trans hf) |>.symm
      obtain rfl : fn = Tryz.f3 := (Option.some.inj (Tryz.func3.symm.trans hfn)).symm
      exact ⟨XF.looks, fun j t ht => by
        rw [Tryz.params3] at ht
        have hm : t ∈ [22] := by simpa using Array.mem_of_getElem? ht
        have hall : ([22].all fun u => !Tryz.prog.wantsStandIn u) = true := by kernel_rfl
        exact (show Tryz.prog.wantsStandIn t = false by simpa using List.all_eq_true.1 hall t hm)⟩)
    goes
#print axioms proved
end Go.Proofs.YtjpmjigganoioaaGreatDoor.fnStatParts
namespace Go.Proofs.YtjpmjigganoioaaGreatDoor
/-- The card, under a short name, for the claim. -/
theorem fnStatParts_holds : Rows.FnStatPartsCardSaid := fnStatParts.proved
end Go.Proofs.YtjpmjigganoioaaGreatDoor

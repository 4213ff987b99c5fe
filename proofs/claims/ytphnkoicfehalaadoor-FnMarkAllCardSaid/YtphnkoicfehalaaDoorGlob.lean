/- The door's own heap holds the listed variable, and what the row's condition gives the walks. -/
import Derived.Test.YtphnkoicfehalaaDoorRows
import Derived.Test.YtphnkoicfehalaaDoorStem
import Derived.ProofKit
import Derived.LaidMore
import Derived.OpenShut
import Derived.Stop.Joined
import Derived.ChangeVars
import Derived.Below
import Derived.Carry
namespace Go.Proofs.YtphnkoicfehalaaDoor.X
open Go.ChangeShapes Go.WideShapes Go.ChangeAt Go.WideElems Go.RowKit
open Go.Proofs.YtphnkoicfehalaaDoorW.PrintWords
def stopsLaid : List (String × DataW Unit) := [("loop.example/spandrel/impl.stops", Rows.laid_loop_example_spandrel_impl_stops)]
theorem gStops : Tryd.prog.globalNamed "loop.example/spandrel/impl.stops" = some 0 := by kernel_rfl
theorem tStops : (Tryd.prog.globals[0]?).map (·.type) = some 22 := by kernel_rfl
theorem cStr : Tryd.prog.cellsOf 9 = 1 := by kernel_rfl
theorem door_met (os : Os) (args : Array Value) : laidMetH Tryd.prog stopsLaid ((World.doorLaid Tryd.prog 400 os).forCall (fun _ _ => 0) ⟨#[], args, []⟩).memory :=
  laidMetH_of_parts3 (fuel := 8) (laidMet_of_run' 8 (by kernel_rfl) (by kernel_rfl)) (by kernel_rfl) (by kernel_rfl)
theorem row_strings {H : Type} {enc : TypeId × Value → H} {w : World} {base : Nat} {sp : Nat → Bool} {held : Bool} {fuel : Nat} {cs : List Value} {ss : List ByteArray} {p : List MemPlace} (hm : ss.length ≤ 9223372036854775807)
    (h : DataW.trod enc Tryd.prog w base sp held fuel 22 cs = some (.slice (ss.map fun s => .lit (.string s.data.toList)) [], p)) :
    ∃ a cap, cs = [.slice (some a) ss.length cap] ∧ ss.length ≤ cap ∧ Kd.C Kd.string w (some a) ss.length ss := by
  obtain ⟨a, cap, hcs, hl, hel⟩ := open_row Tryd.underlying22 cStr h
  rw [List.length_map] at hcs hl
  refine ⟨a, cap, hcs, hl, rfl, hm, fun _ => ⟨a, rfl, fun j s hj => ⟨[.string s], rfl, rfl, fun i u hu => ?_⟩⟩⟩
  obtain ⟨v, n, q, hv, ht⟩ := hel j (.lit (.string s.data.toList)) (by rw [List.getElem?_map, hj]; rfl)
  obtain ⟨s', e1, e2, _⟩ := DataW.trod_string Tryd.underlying9 ht
  simp only [Prod.mk.injEq, DataW.lit.injEq, Lit.string.injEq] at e2
  have e3 : s' = s := by
    cases s'; cases s
    simp only [ByteArray.mk.injEq]
    exact Array.toList_inj.1 e2.1.symm
  subst e3
  obtain rfl : v = .string s' := by simpa using e1
  match i, hu with
  | 0, hu =>
    obtain rfl : Value.string s' = u := by simpa using hu
    have : j * Kd.string.sz + 0 = j := by show j * 1 + 0 = j; omega
    rw [this]; exact hv
/-- The variable reads on, behind a call that turns nothing below. -/
theorem vars_below {H : Type} {enc : TypeId × Value → H} {W W' : World} {gs : List (DataW H)} {q : List MemPlace} (hlo : laidOutB Tryd.prog = true) (hb : Below W.heap.size W W')
    (h : DataW.TrodVars enc Tryd.prog W (fun _ => true) ["loop.example/spandrel/impl.stops"] gs q) : DataW.TrodVars enc Tryd.prog W' (fun b => decide (b < W.heap.size)) ["loop.example/spandrel/impl.stops"] gs q := by
  obtain ⟨g, t, cs, fuel, d, p, rfl, hg, ht, hv, hd, rfl⟩ := trodVars_one h
  obtain rfl := Option.some.inj (gStops.symm.trans hg)
  obtain rfl := Option.some.inj (tStops.symm.trans ht)
  have hone : ∃ v : Value, cs = #[v] ∧ v.cells = #[v] := by
    rcases DataW.trod_slice Tryd.underlying22 hd with ⟨hcs, _⟩ | ⟨a, len, cap, elems, rest, n, _, hcs, _⟩
    · exact ⟨_, Array.eq_one_of_toList hcs, rfl⟩
    · exact ⟨_, Array.eq_one_of_toList hcs, rfl⟩
  obtain ⟨v, rfl, hvc⟩ := hone
  have hT : DataW.Trod enc Tryd.prog W 0 (fun _ => true) true 22 v d p := ⟨fuel, by rw [hvc]; exact hd⟩
  have hp : ∀ x ∈ p, x.block < W.heap.size := fun x hx => DataW.trod_lt fuel _ _ _ hd x hx
  obtain ⟨fuel', hT'⟩ := Below.trod hlo (by kernel_rfl) (of_decide_eq_true (by kernel_rfl)) hT hb hp
  rw [hvc] at hT'
  have hlt : 0 < W.heap.size := by
    have := World.var?_cell hg hv 0
    exact World.block_lt_of_cell? _ _ (by simpa using this)
  have hv' : W'.var? Tryd.prog "loop.example/spandrel/impl.stops" = some #[v] := by
    unfold World.var? at hv ⊢
    rw [hg] at hv ⊢
    simp only [Option.bind_some] at hv ⊢
    rw [hb.block _ hlt]
    exact hv
  exact trodVars_mk1 hg ht hv' hT'
theorem glob_of {W : World} (h : laidMetH Tryd.prog stopsLaid W) : GLOB W := by
  rw [MakeChecks.laidMetH_plain _ _ _ (by kernel_rfl)] at h
  obtain ⟨ps, ⟨g0, t0, cs0, f0, p0, q0, hg0, ht0, hv0, hd0, _, _⟩, _, _⟩ := h
  obtain rfl := Option.some.inj (gStops.symm.trans hg0)
  obtain rfl := Option.some.inj (tStops.symm.trans ht0)
  obtain ⟨a, cap, hcs, hl, hC⟩ := row_strings (ss := stopsL) (by decide) hd0
  have hcell := World.var?_cell hg0 hv0 0
  rw [Array.eq_one_of_toList hcs] at hcell
  have e6 : stopsL.length = 6 := rfl
  rw [e6] at hcell
  exact ⟨some a, cap, by simpa using hcell, hl, hC⟩
end Go.Proofs.YtphnkoicfehalaaDoor.X

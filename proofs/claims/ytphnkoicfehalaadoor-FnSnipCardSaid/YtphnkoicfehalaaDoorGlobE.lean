/- The door's own heap holds the listed variable, and what the row's condition gives. -/
import Derived.Test.YtphnkoicfehalaaDoorRows
import Derived.Test.YtphnkoicfehalaaDoorGSnip
import Derived.ProofKit
import Derived.LaidMore
import Derived.OpenShut
import Derived.Stop.Joined
import Derived.ChangeVars
import Derived.Below
import Derived.Carry
namespace Go.Proofs.YtphnkoicfehalaaDoor.XE
open Go.ChangeShapes Go.WideShapes Go.ChangeAt Go.WideElems Go.RowKit
def stopsLaid : List (String × DataW Unit) := [("loop.example/spandrel/impl.stops", Rows.laid_loop_example_spandrel_impl_stops)]
def stopsL : List ByteArray := [⟨#[97]⟩, ⟨#[97, 110]⟩, ⟨#[97, 110, 100]⟩, ⟨#[111, 102]⟩, ⟨#[116, 104, 101]⟩, ⟨#[116, 111]⟩]
theorem gStops : Tryd.prog.globalNamed "loop.example/spandrel/impl.stops" = some 0 := by kernel_rfl
theorem tStops : (Tryd.prog.globals[0]?).map (·.type) = some 22 := by kernel_rfl
theorem cStr : Tryd.prog.cellsOf 9 = 1 := by kernel_rfl
theorem door_met (os : Os) (args : Array Value) : laidMetH Tryd.prog stopsLaid ((World.doorLaid Tryd.prog 400 os).forCall (fun _ _ => 0) ⟨#[], args, []⟩).memory :=
  laidMetH_of_parts3 (fuel := 8) (laidMet_of_run' 8 (by kernel_rfl) (by kernel_rfl)) (by kernel_rfl) (by kernel_rfl)
/-- The variable reads on, behind a call that turns nothing below. -/
theorem vars_below {H : Type} {enc : TypeId × Value → H} {W W' : World} {gs : List (DataW H)} {q : List MemPlace} (hlo : laidOutB Tryd.prog = true) (hb : Below W.heap.size W W')
    (h : DataW.TrodVars enc Tryd.prog W (fun _ => true) ["loop.example/spandrel/impl.stops"] gs q) : DataW.TrodVars enc Tryd.prog W' (fun b => decide (b < W.heap.size)) ["loop.example/spandrel/impl.stops"] gs q := by
  obtain ⟨g, t, cs, fuel, d, p, rfl, hg, ht, hv, hd, rfl⟩ := trodVars_one h
  obtain rfl := Option.some.inj (gStops.symm.trans hg)
  obtain rfl := Option.some.inj (tStops.symm.trans ht)
  have hone : ∃ v : Value, cs = #[v] ∧ v.cells = #[v] := by
    rcases DataW.trod_slice Tryd.underlying22 hd with ⟨hcs, _⟩ | ⟨a, len, cap, elems, rest, n, _, hcs, _⟩
    · exact ⟨_, Array.eq_one_of_toList hcs, rfl⟩
    · exact ⟨_, Array.eq_one_of_toList hcs, rfl⟩
  obtain ⟨v, rfl, hvc⟩ := hone
  have hT : DataW.Trod enc Tryd.prog W 0 (fun _ => true) true 22 v d p := ⟨fuel, by rw [hvc]; exact hd⟩
  have hp : ∀ x ∈ p, x.block < W.heap.size := fun x hx => DataW.trod_lt fuel _ _ _ hd x hx
  obtain ⟨fuel', hT'⟩ := Below.trod hlo (by kernel_rfl) (of_decide_eq_true (by kernel_rfl)) hT hb hp
  rw [hvc] at hT'
  have hlt : 0 < W.heap.size := by
    have := World.var?_cell hg hv 0
    exact World.block_lt_of_cell? _ _ (by simpa using this)
  have hv' : W'.var? Tryd.prog "loop.example/spandrel/impl.stops" = some #[v] := by
    unfold World.var? at hv ⊢
    rw [hg] at hv ⊢
    simp only [Option.bind_some] at hv ⊢
    rw [hb.block _ hlt]
    exact hv
  exact trodVars_mk1 hg ht hv' hT'
theorem globE {W : World} (h : laidMetH Tryd.prog stopsLaid W) : 0 < W.heap.size ∧ ∀ g cs, Go.E.look Go.E.glist g = some cs → Go.E.R (Go.E.FH W) (fun b => b = 0) W Go.E.noMu (.rc cs) (.pointer (some ⟨g, 0, none⟩)) := by
  rw [MakeChecks.laidMetH_plain _ _ _ (by kernel_rfl)] at h
  obtain ⟨ps, ⟨g0, t0, cs0, f0, p0, q0, hg0, ht0, hv0, hd0, _, _⟩, _, _⟩ := h
  obtain rfl := Option.some.inj (gStops.symm.trans hg0)
  obtain rfl := Option.some.inj (tStops.symm.trans ht0)
  have hR := Go.E.glob_strs stopsL Tryd.underlying22 Tryd.underlying9 cStr (by decide) hd0
  have hR' := hR
  simp only [Go.E.RC] at hR
  obtain ⟨a, cap, hcs, _⟩ := hR
  have hcell := World.var?_cell hg0 hv0 0
  rw [Array.eq_one_of_toList hcs] at hcell
  have hlt : 0 < W.heap.size := World.block_lt_of_cell? _ _ (by simpa using hcell)
  refine ⟨hlt, fun g cs hg => ?_⟩
  have hgl : Go.E.look Go.E.glist g = if 0 = g then some [Go.E.V.val (.sl .str) stopsL] else none := rfl
  rw [hgl] at hg
  split at hg
  · rename_i e
    subst e
    cases hg
    rw [hcs] at hR'
    simp only [Go.E.R]
    refine ⟨_, [.slice a stopsL.length cap], rfl, rfl, rfl, ⟨by simp only [Go.E.R, Go.E.Ty.agg]; exact hR', trivial⟩, fun j v hj => ?_⟩
    cases j with
    | zero => simp at hj; subst hj; simpa using hcell
    | succ j => simp at hj
  · cases hg
end Go.Proofs.YtphnkoicfehalaaDoor.XE

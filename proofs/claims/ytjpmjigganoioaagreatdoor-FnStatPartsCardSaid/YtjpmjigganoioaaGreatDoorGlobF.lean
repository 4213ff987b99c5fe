/- The door's own heap holds the listed variables, and what the row's condition gives of them. -/
import Derived.Test.YtjpmjigganoioaaGreatDoorRows
import Derived.Test.YtjpmjigganoioaaGreatDoorED
import Derived.Test.YtjpmjigganoioaaGreatDoorGStatB
import Derived.ProofKit
import Derived.LaidMore
import Derived.OpenShut
import Derived.Stop.Joined
import Derived.Stop.LaidErr
import Derived.Lib.LaidTab
import Derived.ChangeVars
import Derived.Below
import Derived.Carry
namespace Go.Proofs.YtjpmjigganoioaaGreatDoor.XE
open Go.ChangeShapes Go.WideShapes Go.ChangeAt Go.WideElems Go.RowKit
def stopsL : List ByteArray := [⟨#[97]⟩, ⟨#[97, 110]⟩, ⟨#[97, 110, 100]⟩, ⟨#[111, 102]⟩, ⟨#[116, 104, 101]⟩, ⟨#[116, 111]⟩]
theorem gStops : Tryz.prog.globalNamed "loop.example/spandrel/impl.stops" = some 2 := by kernel_rfl
theorem tStops : (Tryz.prog.globals[2]?).map (·.type) = some 73 := by kernel_rfl
theorem cStr : Tryz.prog.cellsOf 9 = 1 := by kernel_rfl
theorem gSyn : Tryz.prog.globalNamed "strconv.ErrSyntax" = some 0 := by kernel_rfl
theorem gRan : Tryz.prog.globalNamed "strconv.ErrRange" = some 1 := by kernel_rfl
theorem gPow : Tryz.prog.globalNamed "internal/strconv.uint64pow10" = some 4 := by kernel_rfl
theorem tErr (g : Nat) (h : g = 0 ∨ g = 1) : (Tryz.prog.globals[g]?).map (·.type) = some 195 := by rcases h with rfl | rfl <;> kernel_rfl
theorem cEs : Tryz.prog.cellsOf 302 = 1 := by kernel_rfl
theorem star : "*" ++ "errors.errorString" = "*errors.errorString" := by decide
theorem rowEs (u : TypeId) (h : Tryz.prog.typeName? 3 u = some "*errors.errorString") : u = 300 :=
  typeName_ptr_named (nm := "errors.errorString") (by rw [star]; kernel_rfl) (by kernel_rfl) (by decide) u (by rw [star]; exact h)
/-- The variable reads on, behind a call that turns nothing below. -/
theorem vars_below {H : Type} {enc : TypeId × Value → H} {W W' : World} {gs : List (DataW H)} {q : List MemPlace} (hlo : laidOutB Tryz.prog = true) (hb : Below W.heap.size W W')
    (h : DataW.TrodVars enc Tryz.prog W (fun _ => true) ["loop.example/spandrel/impl.stops"] gs q) : DataW.TrodVars enc Tryz.prog W' (fun b => decide (b < W.heap.size)) ["loop.example/spandrel/impl.stops"] gs q := by
  obtain ⟨g, t, cs, fuel, d, p, rfl, hg, ht, hv, hd, rfl⟩ := trodVars_one h
  obtain rfl := Option.some.inj (gStops.symm.trans hg)
  obtain rfl := Option.some.inj (tStops.symm.trans ht)
  have hone : ∃ v : Value, cs = #[v] ∧ v.cells = #[v] := by
    rcases DataW.trod_slice Tryz.underlying73 hd with ⟨hcs, _⟩ | ⟨a, len, cap, elems, rest, n, _, hcs, _⟩
    · exact ⟨_, Array.eq_one_of_toList hcs, rfl⟩
    · exact ⟨_, Array.eq_one_of_toList hcs, rfl⟩
  obtain ⟨v, rfl, hvc⟩ := hone
  have hT : DataW.Trod enc Tryz.prog W 0 (fun _ => true) true 73 v d p := ⟨fuel, by rw [hvc]; exact hd⟩
  have hp : ∀ x ∈ p, x.block < W.heap.size := fun x hx => DataW.trod_lt fuel _ _ _ hd x hx
  obtain ⟨fuel', hT'⟩ := Below.trod hlo (by kernel_rfl) (of_decide_eq_true (by kernel_rfl)) hT hb hp
  rw [hvc] at hT'
  have hlt : 2 < W.heap.size := by
    have := World.var?_cell hg hv 0
    exact World.block_lt_of_cell? _ _ (by simpa using this)
  have hv' : W'.var? Tryz.prog "loop.example/spandrel/impl.stops" = some #[v] := by
    unfold World.var? at hv ⊢
    rw [hg] at hv ⊢
    simp only [Option.bind_some] at hv ⊢
    rw [hb.block _ hlt]
    exact hv
  exact trodVars_mk1 hg ht hv' hT'
/-- The blocks of the listed variables that are read. -/
def BG (b : Nat) : Prop := b = 0 ∨ b = 1 ∨ b = 2 ∨ b = 4
theorem globF {W : World} {x0 x1 x3 x7 : String × DataW Unit} (h : laidMet Tryz.prog [x0, x1, ("internal/strconv.uint64pow10", Rows.laid_internal_strconv_uint64pow10), x3, ("strconv.ErrRange", Rows.laid_strconv_ErrRange), ("strconv.ErrSyntax", Rows.laid_strconv_ErrSyntax), ("loop.example/spandrel/impl.stops", Rows.laid_loop_example_spandrel_impl_stops), x7] W) :
    (∀ b, BG b → b < W.heap.size) ∧ (∀ g cs, Go.E.look Go.E.glist g = some cs → Go.E.R (Go.E.FH W) BG W Go.E.noMu (.rc cs) (.pointer (some ⟨g, 0, none⟩))) ∧ Go.E.GEx Go.E.glist W := by
  have hp : Go.Lib.TabIs Tryz.prog W "internal/strconv.uint64pow10" .u64 Go.Lib.pow10Tab := Go.Lib.tabIs_of_head gPow (t := 304) (by kernel_rfl) Tryz.underlying304 Tryz.underlying192 (by kernel_rfl) (by kernel_rfl) (zs := Go.Lib.pow10Tab) h.tail.tail
  obtain ⟨a1, s1, hr, _⟩ := laid_sentinel h.tail.tail.tail.tail gRan (tErr _ (.inr rfl)) Tryz.underlying195 rowEs Tryz.underlying300 Tryz.underlying302 rfl rfl Tryz.underlying9 cEs cStr
  obtain ⟨a2, s2, hs, _⟩ := laid_sentinel h.tail.tail.tail.tail.tail gSyn (tErr _ (.inl rfl)) Tryz.underlying195 rowEs Tryz.underlying300 Tryz.underlying302 rfl rfl Tryz.underlying9 cEs cStr
  obtain ⟨ps, ⟨g0, t0, cs0, f0, p0, q0, hg0, ht0, hv0, hd0, _, _⟩, _, _⟩ := h.tail.tail.tail.tail.tail.tail
  obtain rfl := Option.some.inj (gStops.symm.trans hg0)
  obtain rfl := Option.some.inj (tStops.symm.trans ht0)
  have hR := Go.E.glob_strs stopsL Tryz.underlying73 Tryz.underlying9 cStr (by decide) hd0
  obtain ⟨e1, e2, hpw⟩ := Go.E.heap_of_var gPow hp
  obtain ⟨r1, r2, hrn⟩ := Go.E.heap_of_var gRan hr
  obtain ⟨y1, y2, hsy⟩ := Go.E.heap_of_var gSyn hs
  obtain ⟨u1, u2, hst⟩ := Go.E.heap_of_var gStops hv0
  have lt : ∀ {g : Nat} {o : Obj}, W.heap[g]? = some o → g < W.heap.size := fun h => (Array.getElem?_eq_some_iff.1 h).1
  have hstop : ∃ v, cs0 = #[v] := by
    have hR' := hR
    simp only [Go.E.RC] at hR'
    obtain ⟨a, cap, hcs, _⟩ := hR'
    exact ⟨_, Array.eq_one_of_toList hcs⟩
  obtain ⟨v, rfl⟩ := hstop
  have all : ∀ g cs, Go.E.look Go.E.glist g = some cs → ∃ us e p, W.heap[g]? = some (.cells us e p) ∧ us.size = cs.length ∧ BG g ∧ Go.E.RL (Go.E.FH W) BG W Go.E.noMu cs us.toList := fun g cs hg => by
    have hgl : Go.E.look Go.E.glist g = if 0 = g then some [Go.E.V.val .err true] else if 1 = g then some [Go.E.V.val .err true] else if 2 = g then some [Go.E.V.val (.sl .str) stopsL] else if 4 = g then some (Go.Lib.pow10Tab.map fun z => Go.E.V.val (.int .u64) z) else none := rfl
    rw [hgl] at hg
    split at hg
    · rename_i e; subst e; cases hg
      exact ⟨_, _, _, hsy, rfl, .inl rfl, Go.E.RL_err⟩
    · split at hg
      · rename_i e; subst e; cases hg
        exact ⟨_, _, _, hrn, rfl, .inr (.inl rfl), Go.E.RL_err⟩
      · split at hg
        · rename_i e; subst e; cases hg
          refine ⟨_, _, _, hst, rfl, .inr (.inr (.inl rfl)), ?_⟩
          simp only [Go.E.RL, and_true]
          simp only [Go.E.R, Go.E.Ty.agg]
          exact hR
        · split at hg
          · rename_i e; subst e; cases hg
            exact ⟨_, _, _, hpw, by simp, .inr (.inr (.inr rfl)), by simpa using Go.E.RL_ints_mk Go.Lib.pow10Tab⟩
          · cases hg
  refine ⟨fun b hb => ?_, fun g cs hg => ?_, fun g cs hg => ?_⟩
  · rcases hb with rfl | rfl | rfl | rfl
    · exact lt hsy
    · exact lt hrn
    · exact lt hst
    · exact lt hpw
  · obtain ⟨us, e, p, k1, _, k3, k4⟩ := all g cs hg
    exact Go.E.rc_of_heap k1 k3 k4
  · obtain ⟨us, e, p, k1, k2, _⟩ := all g cs hg
    exact ⟨us, e, p, k1, k2⟩
end Go.Proofs.YtjpmjigganoioaaGreatDoor.XE

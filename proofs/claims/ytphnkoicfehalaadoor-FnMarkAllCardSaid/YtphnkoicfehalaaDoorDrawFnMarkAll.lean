/- What the drawing functions give: a number below the one asked for, an element of a list, texts that are not long. -/
import Derived.Test.YtphnkoicfehalaaDoorPFnMarkAllx
import Derived.Test.YtphnkoicfehalaaDoorEv
namespace Go.Proofs.YtphnkoicfehalaaDoor.DFnMarkAll
open Go.RowKit Go.Proofs.YtphnkoicfehalaaDoor.PFnMarkAll Go.Proofs.YtphnkoicfehalaaDoorW.PrintWords Go.Proofs.YtphnkoicfehalaaDoorW.PrintLast Go.Proofs.YtphnkoicfehalaaDoor.T
set_option linter.unusedVariables false
set_option linter.unusedSimpArgs false

/-- The code that is drawn from: its bytes, and not too many. -/
def Code (xs : List Int) : Prop := (∀ x ∈ xs, 0 ≤ x ∧ x ≤ 255) ∧ xs.length ≤ 2000
theorem Code.rd {xs : List Int} (h : Code xs) (i : Int) : 0 ≤ rd xs i ∧ rd xs i ≤ 255 := by
  show 0 ≤ xs.getD i.toNat 0 ∧ xs.getD i.toNat 0 ≤ 255
  rw [List.getD_eq_getElem?_getD]
  cases e : xs[i.toNat]? with
  | none => simp
  | some x => exact h.1 x (List.mem_of_getElem? e)
theorem of_wf {l : List Int} (h : ∀ x ∈ l, (Lit.int .u8 x).wf = true) : ∀ x ∈ l, 0 ≤ x ∧ x ≤ 255 := by
  intro x hx
  have := h x hx
  simp [Lit.wf, IntKind.min, IntKind.max, IntKind.signed, IntKind.bits] at this
  omega
theorem open_ev (l : List Int) (h : ∀ x ∈ l, (Lit.int .u8 x).wf = true) : ∃ xs, spec_l1Open.f l = some (xs, 0) ∧ Code xs := by
  unfold spec_l1Open.f
  by_cases h1 : (l.length : Int) > 2000
  · rw [if_pos h1, if_pos (by omega)]
    exact ⟨_, rfl, fun x hx => of_wf h x (List.mem_of_mem_take hx), by rw [List.length_take]; omega⟩
  · rw [if_neg h1]
    exact ⟨_, rfl, of_wf h, by omega⟩

theorem pick_dr (xs : List Int) (hx : Code xs) (p n : Int) (h0 : 0 ≤ p) (h1 : p ≤ 1000000) : Dr (fun k => spec_l1Rd_pick.f k xs p n) p 1 (fun r => 0 ≤ r ∧ (1 ≤ n → r < n)) := by
  have hl := hx.2
  have e0 : wrap64 (p + 1) = p + 1 := w64' _ (by omega) (by omega)
  have e1 : wrap64 (p + 1 - 1) = p := by rw [w64' _ (by omega) (by omega)]; omega
  have hyes : Ev (fun k => spec_l1Rd_pick.j0 k n true xs (p + 1)) (0, p + 1) := by
    refine ev_succ ?_
    simp only [spec_l1Rd_pick.j0]
    exact ev_pos (by trivial) ev_some
  by_cases hn : n < 1
  · refine ⟨0, p + 1, ?_, by omega, by omega, by omega, fun h => by omega⟩
    simp only [spec_l1Rd_pick.f, e0]
    exact ev_pos hn hyes
  · by_cases he : (xs.length : Int) = 0
    · refine ⟨0, p + 1, ?_, by omega, by omega, by omega, fun h => by omega⟩
      simp only [spec_l1Rd_pick.f, e0, beq_iff_eq.2 he]
      exact ev_neg hn hyes
    · have hgo : ∀ r : Int, Ev (fun k => spec_l1Rd_pick.j0 k n false xs (p + 1)) (r, p + 1) → Ev (fun k => spec_l1Rd_pick.f k xs p n) (r, p + 1) := by
        intro r hr
        simp only [spec_l1Rd_pick.f, e0, beq_eq_false_iff_ne.2 he]
        exact ev_neg hn hr
      by_cases hi : p < (xs.length : Int)
      · have hb := hx.rd p
        refine ⟨Int.tmod (rd xs p) n, p + 1, hgo _ (ev_succ ?_), by omega, by omega, Int.tmod_nonneg _ hb.1, fun h => Int.tmod_lt_of_pos _ (by omega)⟩
        simp only [spec_l1Rd_pick.j0, e1]
        rw [w64' (rd xs p) (by omega) (by omega)]
        exact ev_neg (by decide) (ev_pos hi (ev_pos h0 (ev_neg (by omega) ev_some)))
      · have t1 : Int.tmod p (xs.length : Int) = p % (xs.length : Int) := Int.tmod_eq_emod_of_nonneg h0
        have t2 : Int.tmod (p * 7 + 3) (xs.length : Int) = (p * 7 + 3) % (xs.length : Int) := Int.tmod_eq_emod_of_nonneg (by omega)
        have t3 : Int.tdiv p (xs.length : Int) = p / (xs.length : Int) := Int.tdiv_eq_ediv_of_nonneg h0
        have a1 : 0 ≤ p % (xs.length : Int) := Int.emod_nonneg _ he
        have a2 : p % (xs.length : Int) < (xs.length : Int) := Int.emod_lt_of_pos _ (by omega)
        have a3 : 0 ≤ (p * 7 + 3) % (xs.length : Int) := Int.emod_nonneg _ he
        have a4 : (p * 7 + 3) % (xs.length : Int) < (xs.length : Int) := Int.emod_lt_of_pos _ (by omega)
        have a5 : 0 ≤ p / (xs.length : Int) := Int.ediv_nonneg h0 (by omega)
        have a6 : p / (xs.length : Int) ≤ p := Int.ediv_le_self _ h0
        have b1 := hx.rd (p % (xs.length : Int))
        have b2 := hx.rd ((p * 7 + 3) % (xs.length : Int))
        have e7 : wrap64 (p * 7) = p * 7 := w64' _ (by omega) (by omega)
        have e8 : wrap64 (p * 7 + 3) = p * 7 + 3 := w64' _ (by omega) (by omega)
        have e9 : wrap64 (p * 29) = p * 29 := w64' _ (by omega) (by omega)
        refine (fun (z : ∃ x : Int, 0 ≤ x ∧ Ev (fun k => spec_l1Rd_pick.j0 k n false xs (p + 1)) (Int.tmod x n, p + 1)) => ?_) ?_
        · obtain ⟨x, hx0, hx1⟩ := z
          exact ⟨_, p + 1, hgo _ hx1, by omega, by omega, Int.tmod_nonneg _ hx0, fun h => Int.tmod_lt_of_pos _ (by omega)⟩
        generalize hx1 : rd xs (p % (xs.length : Int)) = x1 at *
        generalize hx2 : rd xs ((p * 7 + 3) % (xs.length : Int)) = x2 at *
        have f1 : wrap64 x1 = x1 := w64' _ (by omega) (by omega)
        have f2 : wrap64 x2 = x2 := w64' _ (by omega) (by omega)
        have f3 : wrap64 (x1 * 131) = x1 * 131 := w64' _ (by omega) (by omega)
        have f4 : wrap64 (x2 * 1117) = x2 * 1117 := w64' _ (by omega) (by omega)
        have f5 : wrap64 (x1 * 131 + x2 * 1117) = x1 * 131 + x2 * 1117 := w64' _ (by omega) (by omega)
        have f6 : wrap64 (x1 * 131 + x2 * 1117 + p * 29) = x1 * 131 + x2 * 1117 + p * 29 := w64' _ (by omega) (by omega)
        have f7 : wrap64 (p / (xs.length : Int)) = p / (xs.length : Int) := w64' _ (by omega) (by omega)
        have f8 : wrap64 (p / (xs.length : Int) * 53) = p / (xs.length : Int) * 53 := w64' _ (by omega) (by omega)
        generalize hw : p / (xs.length : Int) = w at *
        have f9 : wrap64 (x1 * 131 + x2 * 1117 + p * 29 + w * 53) = x1 * 131 + x2 * 1117 + p * 29 + w * 53 := w64' _ (by omega) (by omega)
        generalize hy : x1 * 131 + x2 * 1117 + p * 29 + w * 53 = y at *
        have y0 : 0 ≤ y := by omega
        have y1 : y ≤ 1000000000 := by omega
        have t4 : Int.tdiv y 64 = y / 64 := Int.tdiv_eq_ediv_of_nonneg y0
        have f10 : wrap64 (y / 64) = y / 64 := w64' _ (by omega) (by omega)
        refine ⟨_, bits_xor_i64 y (y / 64) y0 (by omega) (by omega) (by omega), ev_succ ?_⟩
        simp only [spec_l1Rd_pick.j0, e1, t1, t3, e7, e8, t2, e9, hx1, hx2, hw, f1, f2, f3, f4, f5, f6, f7, f8, hy, f9, t4, f10]
        exact ev_neg (by decide) (ev_neg hi (ev_neg he (ev_pos a1 (ev_pos a2 (ev_pos a3 (ev_pos a4 (ev_neg (by omega) ev_some)))))))

theorem of_dr (xs : List Int) (hx : Code xs) (p : Int) (l : List ByteArray) (hl : 1 ≤ l.length) (h0 : 0 ≤ p) (h1 : p ≤ 1000000) : Dr (fun k => spec_l1Rd_of.f k xs p l) p 1 (fun r => r ∈ l) := by
  obtain ⟨r, p', hr, g0, g1, g2, g3⟩ := pick_dr xs hx p (l.length : Int) h0 h1
  have hlt := g3 (by omega)
  obtain ⟨m, rfl⟩ := Int.eq_ofNat_of_zero_le g2
  refine ⟨l.getD m ByteArray.empty, p', ?_, g0, g1, ?_⟩
  · unfold spec_l1Rd_of.f
    refine ev_bind hr ?_
    show Ev (fun _ => if 0 ≤ (m : Int) then (if (m : Int) < (l.length : Int) then some (rdOf ByteArray.empty l (m : Int), p') else none) else none) _
    unfold rdOf
    rw [Int.toNat_natCast]
    exact ev_pos (by omega) (ev_pos hlt ev_some)
  · rw [List.getD_eq_getElem?_getD, List.getElem?_eq_getElem (by omega)]
    exact List.getElem_mem _
end Go.Proofs.YtphnkoicfehalaaDoor.DFnMarkAll

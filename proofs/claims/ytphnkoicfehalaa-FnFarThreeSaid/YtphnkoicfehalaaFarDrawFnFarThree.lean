/- The two drawn texts of the laws on distances: they are not long. -/
import Derived.Test.YtphnkoicfehalaaTextFnFarThree
namespace Go.Proofs.Ytphnkoicfehalaa.DFnFarThree
open Go.RowKit Go.Proofs.Ytphnkoicfehalaa.PFnFarThree Go.Proofs.YtphnkoicfehalaaW.PrintWords Go.Proofs.YtphnkoicfehalaaW.PrintLast Go.Proofs.Ytphnkoicfehalaa.T
set_option linter.unusedVariables false
set_option linter.unusedSimpArgs false

theorem cut_dr (xs : List Int) (hx : Code xs) (p : Int) (s : ByteArray) (hs : s.size ≤ 100000) (h0 : 0 ≤ p) (h1 : p ≤ 990000) : Dr (fun k => spec_l11Cut.f k xs p s) p 3 (fun r => r.size ≤ s.size + 1) := by
  obtain ⟨n, p1, hn, g0, g1, g2, g3⟩ := pick_dr xs hx p ((s.size : Int) + 1) h0 (by omega)
  obtain ⟨c, p2, hc, k0, k1, k2, k3⟩ := pick_dr xs hx p1 5 (by omega) (by omega)
  have g4 := g3 (by omega)
  obtain ⟨j, rfl⟩ := Int.eq_ofNat_of_zero_le g2
  unfold spec_l11Cut.f
  rw [w64' _ (by omega) (by omega)]
  have z1 : (s.extract 0 j).size = j := by rw [size_extract _ _ _ (by omega) (by omega)]; omega
  have z2 : (s.extract j s.size).size = s.size - j := size_extract _ _ _ (by omega) (by omega)
  by_cases c0 : c = 0
  · obtain ⟨t, p3, ht, j0, j1, j2⟩ := of_dr xs hx p2 [(⟨#[32]⟩ : ByteArray), (⟨#[58]⟩ : ByteArray), (⟨#[10]⟩ : ByteArray), (⟨#[48]⟩ : ByteArray), (⟨#[120]⟩ : ByteArray), (⟨#[61]⟩ : ByteArray), (⟨#[45]⟩ : ByteArray), (⟨#[41]⟩ : ByteArray)] (by decide) (by omega) (by omega)
    have k3 : t.size ≤ 1 := by
      simp only [List.mem_cons, List.not_mem_nil, or_false] at j2
      rcases j2 with h | h | h | h | h | h | h | h <;> (subst h; decide)
    have e1 := size_append (s.extract 0 j) t
    have e2 := size_append (s.extract 0 j ++ t) (s.extract j s.size)
    refine ⟨(s.extract 0 j ++ t) ++ s.extract j s.size, p3, ev_bind hn (ev_bind hc (ev_pos c0 (ev_pos g2 (ev_pos (by show (j : Int) ≤ _; omega) (ev_bind ht ?_))))), by omega, by omega, by omega⟩
    show Ev (fun n => if (s.extract 0 (j : Int).toNat).size + t.size ≤ 9223372036854775807 then (if ((s.extract 0 (j : Int).toNat) ++ t).size + (s.extract (j : Int).toNat s.size).size ≤ 9223372036854775807 then (some (((s.extract 0 (j : Int).toNat) ++ t) ++ (s.extract (j : Int).toNat s.size), p3)) else (none)) else (none)) _
    simp only [Int.toNat_natCast]
    exact ev_pos (by omega) (ev_pos (by omega) ev_some)
  · by_cases c1 : c = 1
    · refine ⟨s.extract 0 j, p2, ev_bind hn (ev_bind hc (ev_neg c0 (ev_pos c1 (ev_pos g2 (ev_pos (by show (j : Int) ≤ _; omega) ?_))))), by omega, by omega, by omega⟩
      show Ev (fun n => some (s.extract 0 (j : Int).toNat, p2)) _
      rw [Int.toNat_natCast]
      exact ev_some
    · exact ⟨s, p2, ev_bind hn (ev_bind hc (ev_neg c0 (ev_neg c1 ev_some))), by omega, by omega, by omega⟩

theorem drawFar (l : List Int) (h : ∀ x ∈ l, (Lit.int .u8 x).wf = true) : ∃ a b, Ev (fun k => spec_DrawFar.f k l) (a, b) ∧ a.size ≤ 1000 ∧ b.size ≤ 1000 := by
  obtain ⟨xs, ho, hx⟩ := open_ev l h
  obtain ⟨w, p1, hw, a0, a1, a2⟩ := word_dr xs hx 0 (by omega) (by omega)
  obtain ⟨t, p2, ht, b0, b1, b2⟩ := anytext_dr xs hx p1 (by omega) (by omega)
  obtain ⟨a, p3, ha, c0, c1, c2⟩ := of_dr xs hx p2 [w, (⟨#[]⟩ : ByteArray), t] (by simp) (by omega) (by omega)
  have ha' : a.size ≤ 200 := by
    simp only [List.mem_cons, List.not_mem_nil, or_false] at c2
    rcases c2 with e | e | e <;> subst e
    · omega
    · show 0 ≤ 200; omega
    · omega
  obtain ⟨n, p4, hn, d0, d1, d2, d3⟩ := pick_dr xs hx p3 2 (by omega) (by omega)
  unfold spec_DrawFar.f
  by_cases e : n = 0
  · obtain ⟨b, p5, hb, e0, e1, e2⟩ := cut_dr xs hx p4 a (by omega) (by omega) (by omega)
    exact ⟨a, b, ev_bind0 ho (ev_bind hw (ev_bind ht (ev_bind ha (ev_bind hn (ev_pos e (ev_bind hb ev_some)))))), by omega, by omega⟩
  · obtain ⟨b, p5, hb, e0, e1, e2⟩ := word_dr xs hx p4 (by omega) (by omega)
    exact ⟨a, b, ev_bind0 ho (ev_bind hw (ev_bind ht (ev_bind ha (ev_bind hn (ev_neg e (ev_bind hb ev_some)))))), by omega, by omega⟩
end Go.Proofs.Ytphnkoicfehalaa.DFnFarThree

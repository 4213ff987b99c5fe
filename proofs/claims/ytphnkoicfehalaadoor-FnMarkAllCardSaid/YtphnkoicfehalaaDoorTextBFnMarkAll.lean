/- The drawn texts are not long, and have no brackets. -/
import Derived.Test.YtphnkoicfehalaaDoorDrawFnMarkAll
namespace Go.Proofs.YtphnkoicfehalaaDoor.DFnMarkAll
open Go.RowKit Go.Proofs.YtphnkoicfehalaaDoor.PFnMarkAll Go.Proofs.YtphnkoicfehalaaDoorW.PrintWords Go.Proofs.YtphnkoicfehalaaDoorW.PrintLast Go.Proofs.YtphnkoicfehalaaDoor.T
set_option linter.unusedVariables false
set_option linter.unusedSimpArgs false

/-- Without brackets. -/
def nb (l : List UInt8) : Prop := ∀ b ∈ l, b ≠ 91 ∧ b ≠ 93
theorem nb_nil : nb [] := fun b h => by cases h
theorem nb_append {a b : List UInt8} (h1 : nb a) (h2 : nb b) : nb (a ++ b) := fun x hx => by
  rcases List.mem_append.1 hx with h | h
  · exact h1 x h
  · exact h2 x h
theorem nb_bs {a b : ByteArray} (h1 : nb (bs a)) (h2 : nb (bs b)) : nb (bs (a ++ b)) := by rw [bs_append]; exact nb_append h1 h2
theorem word_dr (xs : List Int) (hx : Code xs) (p : Int) (h0 : 0 ≤ p) (h1 : p ≤ 1000000) : Dr (fun k => spec_l11Word.f k xs p) p 1 (fun r => r.size ≤ 18 ∧ nb (bs r)) := by
  unfold spec_l11Word.f
  obtain ⟨v, p', hv, g0, g1, g2⟩ := of_dr xs hx p [(⟨#[114, 101, 100]⟩ : ByteArray), (⟨#[82, 101, 100]⟩ : ByteArray), (⟨#[97, 112, 112, 108, 101]⟩ : ByteArray), (⟨#[97, 112, 112, 108, 101, 115]⟩ : ByteArray), (⟨#[112, 105, 101]⟩ : ByteArray), (⟨#[116, 104, 101]⟩ : ByteArray), (⟨#[111, 102]⟩ : ByteArray), (⟨#[103, 108, 97, 115, 115]⟩ : ByteArray), (⟨#[98, 117, 115]⟩ : ByteArray), (⟨#[116, 114, 101, 101]⟩ : ByteArray), (⟨#[116, 114, 101, 101, 115]⟩ : ByteArray), (⟨#[55]⟩ : ByteArray), (⟨#[118, 101, 114, 121, 108, 111, 110, 103, 119, 111, 114, 100, 105, 110, 100, 101, 101, 100]⟩ : ByteArray), (⟨#[97]⟩ : ByteArray)] (by decide) h0 h1
  refine ⟨v, p', ev_bind hv ev_some, g0, g1, ?_⟩
  revert v
  intro v _ hm
  simp only [List.mem_cons, List.not_mem_nil, or_false] at hm
  rcases hm with h | h | h | h | h | h | h | h | h | h | h | h | h | h <;> (subst h; exact ⟨by decide, by unfold nb; decide⟩)

theorem many_ev (n : Nat) : n ≤ 1000000 → ∀ s out : ByteArray, out.size + s.size * n ≤ 1000000000000 → s.size ≤ 1000000000000 → ∃ r, Ev (fun k => spec_l1Many.l0 k s (n : Int) out) r ∧ r.size = out.size + s.size * n ∧ (nb (bs s) → nb (bs out) → nb (bs r)) := by
  induction n using Nat.strongRecOn with
  | ind n ih =>
    intro hn6 s out h hs
    by_cases h0 : n = 0
    · subst h0
      refine ⟨out, ev_succ ?_, by simp, fun _ h => h⟩
      simp only [spec_l1Many.l0]
      exact ev_neg (by omega) ev_some
    · obtain ⟨m, b, hb, rfl⟩ : ∃ m b, b < 2 ∧ n = 2 * m + b := ⟨n / 2, n % 2, by omega, by omega⟩
      have t1 : Int.tmod ((2 * m + b : Nat) : Int) 2 = (b : Int) := by rw [Int.tmod_eq_emod_of_nonneg (by omega)]; omega
      have t2 : Int.tdiv ((2 * m + b : Nat) : Int) 2 = (m : Int) := by rw [Int.tdiv_eq_ediv_of_nonneg (by omega)]; omega
      have e1 : s.size * (2 * m + b) = 2 * (s.size * m) + s.size * b := by rw [Nat.mul_add, Nat.mul_left_comm]
      have e2 : (s ++ s).size * m = 2 * (s.size * m) := by rw [size_append, ← Nat.two_mul, Nat.mul_assoc]
      have e3 := size_append s s
      have e4 := size_append out s
      have em : s.size ≤ s.size * (2 * m + b) := Nat.le_mul_of_pos_right _ (by omega)
      have hs2 : s.size + s.size ≤ 1000000000000 ∨ m = 0 := by
        by_cases hm : m = 0
        · exact .inr hm
        · left
          have : s.size * 1 ≤ s.size * m := Nat.mul_le_mul_left _ (by omega)
          omega
      rcases (by omega : b = 0 ∨ b = 1) with rfl | rfl
      · have hm : m ≠ 0 := by omega
        obtain ⟨r, hr, hz, hq⟩ := ih m (by omega) (by omega) (s ++ s) out (by omega) (by omega)
        refine ⟨r, ev_succ ?_, by omega, fun h1 h2 => hq (nb_bs h1 h1) h2⟩
        simp only [spec_l1Many.l0, t1, t2]
        refine ev_pos (by omega) (ev_neg (by decide) (ev_pos (by omega) ?_))
        rw [w64' _ (by omega) (by omega)]
        exact hr
      · by_cases hm : m = 0
        · subst hm
          have hfin : ∀ S : ByteArray, Ev (fun k => spec_l1Many.l0 k S ((0 : Nat) : Int) (out ++ s)) (out ++ s) := by
            intro S
            refine ev_succ ?_
            simp only [spec_l1Many.l0]
            exact ev_neg (by omega) ev_some
          refine ⟨out ++ s, ev_succ ?_, by omega, fun h1 h2 => nb_bs h2 h1⟩
          simp only [spec_l1Many.l0, t1, t2]
          refine ev_pos (by omega) (ev_pos (by decide) (ev_pos (by omega) (ev_pos (by omega) ?_)))
          rw [w64' _ (by omega) (by omega)]
          exact hfin _
        · obtain ⟨r, hr, hz, hq⟩ := ih m (by omega) (by omega) (s ++ s) (out ++ s) (by omega) (by omega)
          refine ⟨r, ev_succ ?_, by omega, fun h1 h2 => hq (nb_bs h1 h1) (nb_bs h2 h1)⟩
          simp only [spec_l1Many.l0, t1, t2]
          refine ev_pos (by omega) (ev_pos (by decide) (ev_pos (by omega) (ev_pos (by omega) ?_)))
          rw [w64' _ (by omega) (by omega)]
          exact hr

theorem text_loop (xs : List Int) (hx : Code xs) : ∀ (n : Nat) (out : ByteArray) (p : Int), 0 ≤ p → p + 2 * n ≤ 1000000 → out.size + 20 * n ≤ 1000 → nb (bs out) → Dr (fun k => spec_l11Text.l0 k out (n : Int) xs p) p (2 * n) (fun r => r.size ≤ out.size + 20 * n ∧ nb (bs r)) := by
  intro n
  induction n with
  | zero =>
    intro out p h0 h1 h2 hb
    refine ⟨out, p, ev_succ ?_, by omega, by omega, by omega, hb⟩
    simp only [spec_l11Text.l0]
    exact ev_neg (by omega) ev_some
  | succ n ih =>
    intro out p h0 h1 h2 hb
    obtain ⟨w, p1, hw, g0, g1, g2, g3⟩ := word_dr xs hx p h0 (by omega)
    obtain ⟨c, p2, hc, k0, k1, k2⟩ := of_dr xs hx p1 [(⟨#[32]⟩ : ByteArray), (⟨#[44, 32]⟩ : ByteArray), (⟨#[45]⟩ : ByteArray), (⟨#[32]⟩ : ByteArray), (⟨#[46]⟩ : ByteArray)] (by decide) (by omega) (by omega)
    have k3 : c.size ≤ 2 ∧ nb (bs c) := by
      simp only [List.mem_cons, List.not_mem_nil, or_false] at k2
      rcases k2 with h | h | h | h | h <;> (subst h; exact ⟨by decide, by unfold nb; decide⟩)
    obtain ⟨k3, k4⟩ := k3
    have e1 := size_append out w
    have e2 := size_append (out ++ w) c
    obtain ⟨r, p3, hr, j0, j1, j2, j3⟩ := ih ((out ++ w) ++ c) p2 (by omega) (by omega) (by omega) (nb_bs (nb_bs hb g3) k4)
    refine ⟨r, p3, ev_succ ?_, by omega, by omega, by omega, j3⟩
    simp only [spec_l11Text.l0]
    refine ev_pos (by omega) (ev_bind hw (ev_pos (by show _ + w.size ≤ _; omega) (ev_bind hc (ev_pos (by show (out ++ w).size + c.size ≤ _; omega) ?_))))
    rw [w64' _ (by omega) (by omega), show (((n + 1 : Nat) : Int) - 1) = (n : Int) from by omega]
    exact hr

theorem text_dr (xs : List Int) (hx : Code xs) (p : Int) (h0 : 0 ≤ p) (h1 : p ≤ 999000) : Dr (fun k => spec_l11Text.f k xs p) p 20 (fun r => r.size ≤ 120 ∧ nb (bs r)) := by
  obtain ⟨n, p1, hn, g0, g1, g2, g3⟩ := pick_dr xs hx p 6 h0 (by omega)
  obtain ⟨m, rfl⟩ := Int.eq_ofNat_of_zero_le g2
  have := g3 (by omega)
  obtain ⟨r, p2, hr, j0, j1, j2, j3⟩ := text_loop xs hx m ⟨#[]⟩ p1 (by omega) (by omega) (by show 0 + _ ≤ _; omega) nb_nil
  have e : (⟨#[]⟩ : ByteArray).size = 0 := rfl
  refine ⟨r, p2, ?_, by omega, by omega, by omega, j3⟩
  unfold spec_l11Text.f
  exact ev_bind hn hr

theorem anytext_dr (xs : List Int) (hx : Code xs) (p : Int) (h0 : 0 ≤ p) (h1 : p ≤ 990000) : Dr (fun k => spec_l11AnyText.f k xs p) p 40 (fun r => r.size ≤ 130 ∧ nb (bs r)) := by
  obtain ⟨n, p1, hn, g0, g1, g2, g3⟩ := pick_dr xs hx p 14 h0 (by omega)
  unfold spec_l11AnyText.f
  by_cases c0 : n = 0
  · obtain ⟨m, p2, hm, k0, k1, k2, k3⟩ := pick_dr xs hx p1 2 (by omega) (by omega)
    have := k3 (by omega)
    obtain ⟨r, hr, hz, hq⟩ := many_ev (60 + m).toNat (by omega) ⟨#[120]⟩ ⟨#[]⟩ (by show 0 + 1 * _ ≤ _; omega) (by decide)
    have e1 : (⟨#[]⟩ : ByteArray).size = 0 := rfl
    have e2 : (⟨#[120]⟩ : ByteArray).size = 1 := rfl
    rw [e1, e2] at hz
    refine ⟨r, p2, ev_bind hn (ev_pos c0 (ev_bind hm (ev_bind ?_ ev_some))), by omega, by omega, by omega, hq (by unfold nb; decide) nb_nil⟩
    show Ev (fun n => spec_l1Many.f n _ (wrap64 (60 + m))) r
    rw [w64' _ (by omega) (by omega)]
    unfold spec_l1Many.f
    rw [Int.toNat_of_nonneg (by omega)] at hr
    exact hr
  · by_cases c1 : n = 1
    · obtain ⟨t, p2, ht, k0, k1, k2, k5⟩ := text_dr xs hx p1 (by omega) (by omega)
      obtain ⟨c, p3, hc, j0, j1, j2⟩ := of_dr xs hx p2 [(⟨#[10]⟩ : ByteArray), (⟨#[1]⟩ : ByteArray), (⟨#[127]⟩ : ByteArray)] (by decide) (by omega) (by omega)
      have k3 : c.size ≤ 1 ∧ nb (bs c) := by
        simp only [List.mem_cons, List.not_mem_nil, or_false] at j2
        rcases j2 with h | h | h <;> (subst h; exact ⟨by decide, by unfold nb; decide⟩)
      obtain ⟨k3, k4⟩ := k3
      have e1 := size_append t c
      exact ⟨t ++ c, p3, ev_bind hn (ev_neg c0 (ev_pos c1 (ev_bind ht (ev_bind hc (ev_pos (by show t.size + c.size ≤ _; omega) ev_some))))), by omega, by omega, by omega, nb_bs k5 k4⟩
    · obtain ⟨t, p2, ht, k0, k1, k2, k5⟩ := text_dr xs hx p1 (by omega) (by omega)
      exact ⟨t, p2, ev_bind hn (ev_neg c0 (ev_neg c1 (ev_bind ht ev_some))), by omega, by omega, by omega, k5⟩

theorem terms_loop (xs : List Int) (hx : Code xs) : ∀ (n : Nat) (out : List ByteArray) (p : Int), 0 ≤ p → p + n ≤ 1000000 → out.length + n ≤ 1000 → Dr (fun k => spec_l11Terms.l0 k out (n : Int) xs p) p n (fun r => r.length ≤ out.length + n) := by
  intro n
  induction n with
  | zero =>
    intro out p h0 h1 h2
    refine ⟨out, p, ev_succ ?_, by omega, by omega, by omega⟩
    simp only [spec_l11Terms.l0]
    exact ev_neg (by omega) ev_some
  | succ n ih =>
    intro out p h0 h1 h2
    obtain ⟨w, p1, hw, g0, g1, g2⟩ := of_dr xs hx p [(⟨#[114, 101, 100]⟩ : ByteArray), (⟨#[97, 112, 112, 108, 101]⟩ : ByteArray), (⟨#[112, 105, 101]⟩ : ByteArray), (⟨#[]⟩ : ByteArray), (⟨#[103, 108, 97, 115, 115]⟩ : ByteArray), (⟨#[116, 114, 101, 101]⟩ : ByteArray)] (by decide) (by omega) (by omega)
    obtain ⟨r, p3, hr, j0, j1, j2⟩ := ih (out ++ [w]) p1 (by omega) (by omega) (by simp; omega)
    rw [List.length_append] at j2
    simp only [List.length_cons, List.length_nil] at j2
    refine ⟨r, p3, ev_succ ?_, by omega, by omega, by omega⟩
    simp only [spec_l11Terms.l0]
    refine ev_pos (by omega) (ev_bind hw (ev_pos (by omega) ?_))
    rw [w64' _ (by omega) (by omega), show (((n + 1 : Nat) : Int) - 1) = (n : Int) from by omega]
    exact hr
theorem terms_dr (xs : List Int) (hx : Code xs) (p : Int) (h0 : 0 ≤ p) (h1 : p ≤ 990000) : Dr (fun k => spec_l11Terms.f k xs p) p 10 (fun r => r.length ≤ 10) := by
  obtain ⟨n, p1, hn, g0, g1, g2, g3⟩ := pick_dr xs hx p 4 h0 (by omega)
  obtain ⟨m, rfl⟩ := Int.eq_ofNat_of_zero_le g2
  have := g3 (by omega)
  obtain ⟨r, p2, hr, j0, j1, j2⟩ := terms_loop xs hx m [] p1 (by omega) (by omega) (by simp; omega)
  refine ⟨r, p2, ?_, by omega, by omega, by simp at j2; omega⟩
  unfold spec_l11Terms.f
  exact ev_bind hn hr
end Go.Proofs.YtphnkoicfehalaaDoor.DFnMarkAll

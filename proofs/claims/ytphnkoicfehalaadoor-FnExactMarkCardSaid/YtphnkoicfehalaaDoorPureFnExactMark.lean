/- The plain law of FnExactMark: a marked text is as the reference's; the list of words stays as it was. -/
import Derived.Test.YtphnkoicfehalaaDoorMarkFnExactMark
import Derived.Test.YtphnkoicfehalaaDoorPFnExactMarkx4
namespace Go.Proofs.YtphnkoicfehalaaDoor.DFnExactMark
open Go.RowKit Go.Proofs.YtphnkoicfehalaaDoor.PFnExactMark Go.Proofs.YtphnkoicfehalaaDoorW.PrintWords Go.Proofs.YtphnkoicfehalaaDoorW.PrintLast Go.Proofs.YtphnkoicfehalaaDoor.T Go.Proofs.YtphnkoicfehalaaDoor.X Go.Proofs.YtphnkoicfehalaaDoor.DFnExactMark
set_option linter.unusedVariables false
set_option linter.unusedSimpArgs false

theorem rdOf_eq (l : List ByteArray) (k : Nat) (h : k < l.length) : rdOf ByteArray.empty l (k : Int) = l[k] := rdOf_nat l k h
theorem sz_loop (l : List ByteArray) (hl : l.length ≤ 1048576) : ∀ (d i : Nat) (left : Int), l.length - i = d → i ≤ l.length → 0 ≤ left → left ≤ 1048576 → (∀ t ∈ l, t.size ≤ 9223372036854775807) → ∃ r : Int, Ev (fun k => laws_szStringS.l0 k l left (i : Int)) r ∧ -1 ≤ r ∧ r ≤ 1048576 := by
  intro d
  induction d with
  | zero =>
    intro i left h1 h2 h3 h4 _
    refine ⟨left, ev_succ ?_, by omega, by omega⟩
    simp only [laws_szStringS.l0]
    exact ev_neg (by omega) ev_some
  | succ d ih =>
    intro i left h1 h2 h3 h4 hz
    have hi : i < l.length := by omega
    have hzi := hz l[i] (List.getElem_mem _)
    have ew : wrap64 (left - ((rdOf ByteArray.empty l (i : Int)).size : Int)) = left - (l[i].size : Int) := by
      rw [rdOf_nat l i hi]; exact w64' _ (by omega) (by omega)
    by_cases c : left - (l[i].size : Int) < 0
    · refine ⟨-1, ev_succ ?_, by omega, by omega⟩
      simp only [laws_szStringS.l0]
      rw [ew]
      exact ev_pos (by omega) (ev_pos (by omega) (ev_pos c ev_some))
    · obtain ⟨r, hr, g1, g2⟩ := ih (i + 1) (left - (l[i].size : Int)) (by omega) (by omega) (by omega) (by omega) hz
      refine ⟨r, ev_succ ?_, g1, g2⟩
      simp only [laws_szStringS.l0]
      rw [ew, w64' ((i : Int) + 1) (by omega) (by omega)]
      exact ev_pos (by omega) (ev_pos (by omega) (ev_neg c hr))
theorem sz_ev (l : List ByteArray) (hl : l.length ≤ maxLen) (hz : ∀ t ∈ l, t.size ≤ 9223372036854775807) : ∃ r : Int, Ev (fun k => laws_szStringS.f k l 1048576) r ∧ (0 ≤ r → l.length ≤ 1048576) := by
  have hm : maxLen ≤ 9223372036854775807 := by decide
  unfold laws_szStringS.f
  have ew : wrap64 (1048576 - (l.length : Int)) = 1048576 - (l.length : Int) := w64' _ (by omega) (by omega)
  rw [ew]
  by_cases c : (1048576 - (l.length : Int)) < 0
  · exact ⟨-1, ev_pos c ev_some, fun h => by omega⟩
  · obtain ⟨r, hr, _, _⟩ := sz_loop l (by omega) l.length 0 (1048576 - (l.length : Int)) (by omega) (by omega) (by omega) (by omega) hz
    exact ⟨r, ev_neg c hr, fun _ => by omega⟩
theorem to_loop (l : List ByteArray) (hl : l.length ≤ 1048576) : ∀ (d i : Nat) (rest : List ByteArray), l.length - i = d → i ≤ l.length → rest.length = l.length - i → Ev (fun k => laws_toStringS.l0 k l (l.take i ++ rest) (i : Int)) l := by
  intro d
  induction d with
  | zero =>
    intro i rest h1 h2 h3
    refine ev_succ ?_
    simp only [laws_toStringS.l0]
    refine ev_neg (by omega) (ev_eq ?_)
    rw [List.take_of_length_le (by omega), List.eq_nil_of_length_eq_zero (by omega : rest.length = 0), List.append_nil]
  | succ d ih =>
    intro i rest h1 h2 h3
    have hi : i < l.length := by omega
    match rest, h3 with
    | [], h3 => simp at h3; omega
    | r0 :: rest, h3 =>
      have hr : rest.length = l.length - (i + 1) := by simp only [List.length_cons] at h3; omega
      have hn := ih (i + 1) rest (by omega) (by omega) hr
      refine ev_succ ?_
      simp only [laws_toStringS.l0]
      rw [rdOf_nat l i hi, Int.toNat_natCast, w64' ((i : Int) + 1) (by omega) (by omega)]
      refine ev_pos (by omega) (ev_pos (by omega) (ev_pos ?_ ?_))
      · simp only [List.length_append, List.length_take, List.length_cons]; omega
      · have e : (l.take i ++ r0 :: rest).set i l[i] = l.take (i + 1) ++ rest := by
          rw [List.set_append_right _ _ (by rw [List.length_take]; omega), List.length_take, Nat.min_eq_left (by omega), Nat.sub_self, List.set_cons_zero, List.take_succ_eq_append_getElem hi, List.append_assoc]
          rfl
        rw [e]
        exact hn
theorem to_ev (l : List ByteArray) (hl : l.length ≤ 1048576) : Ev (fun k => laws_toStringS.f k l) l := by
  unfold laws_toStringS.f
  rw [Int.toNat_natCast]
  refine ev_pos (by omega) (ev_pos (by omega) ?_)
  have := to_loop l hl l.length 0 (List.replicate l.length ⟨#[]⟩) (by omega) (by omega) (by simp)
  simpa using this
theorem eq_loop (l : List ByteArray) (hl : l.length ≤ 1048576) : ∀ (d i : Nat), l.length - i = d → i ≤ l.length → Ev (fun k => laws_eqStringS.l0 k l l (i : Int)) true := by
  intro d
  induction d with
  | zero =>
    intro i h1 h2
    refine ev_succ ?_
    simp only [laws_eqStringS.l0]
    exact ev_neg (by omega) ev_some
  | succ d ih =>
    intro i h1 h2
    refine ev_succ ?_
    simp only [laws_eqStringS.l0]
    rw [w64' ((i : Int) + 1) (by omega) (by omega)]
    exact ev_pos (by omega) (ev_pos (by omega) (ev_pos (by omega) (ev_pos trivial (ih (i + 1) (by omega) (by omega)))))
theorem eq_ev (l : List ByteArray) (hl : l.length ≤ 1048576) : Ev (fun k => laws_eqStringS.f k l l) true := by
  unfold laws_eqStringS.f
  exact ev_pos rfl (eq_loop l hl l.length 0 (by omega) (by omega))
end Go.Proofs.YtphnkoicfehalaaDoor.DFnExactMark
namespace Go.Proofs.YtphnkoicfehalaaDoor.Pure
open Go.RowKit Go.Proofs.YtphnkoicfehalaaDoor.PFnExactMark Go.Proofs.YtphnkoicfehalaaDoorW.PrintWords Go.Proofs.YtphnkoicfehalaaDoorW.PrintLast Go.Proofs.YtphnkoicfehalaaDoor.T Go.Proofs.YtphnkoicfehalaaDoor.X Go.Proofs.YtphnkoicfehalaaDoor.DFnExactMark
theorem FnExactMark (s : ByteArray) (l : List ByteArray) (hl : l.length ≤ maxLen) (hz : ∀ t ∈ l, t.size ≤ 9223372036854775807) : ∃ k, laws_FnExactMark.f k s l = some true := by
  have key : Ev (fun k => laws_FnExactMark.f k s l) true := by
    unfold laws_FnExactMark.f
    refine ev_ite (fun _ => ev_some) (fun hs => ?_)
    obtain ⟨r, hr, hn⟩ := sz_ev l hl hz
    refine ev_bind hr (ev_ite (fun _ => ev_some) (fun h0 => ?_))
    have hL := hn (by omega)
    refine ev_bind (to_ev l hL) (ev_bind (spec_mark s l (by omega) (by omega)) (ev_bind (to_ev l hL) (ev_bind (impl_mark s l (by omega) (by omega)) (ev_pos rfl (ev_bind (to_ev l hL) (ev_bind (eq_ev l hL) (ev_pos rfl ev_some)))))))
  obtain ⟨K, h⟩ := key
  exact ⟨K, h K (Nat.le_refl _)⟩
end Go.Proofs.YtphnkoicfehalaaDoor.Pure

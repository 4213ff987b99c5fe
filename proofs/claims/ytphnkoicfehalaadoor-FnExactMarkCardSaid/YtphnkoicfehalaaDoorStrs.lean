/- What a handed row of texts is, read off the row's condition. -/
import Derived.Test.YtphnkoicfehalaaDoorGlob
namespace Go.Proofs.YtphnkoicfehalaaDoor.X
open Go.ChangeShapes Go.WideShapes Go.ChangeAt Go.WideElems Go.RowKit
open Go.Proofs.YtphnkoicfehalaaDoorW.PrintWords
theorem open_strs {H : Type} {enc : TypeId × Value → H} {w : World} {base : Nat} {sp : Nat → Bool} {held : Bool} {fuel : Nat} {cs : List Value} {d : DataW H} {p : List MemPlace}
    (h : DataW.trod enc Tryd.prog w base sp held fuel 22 cs = some (d, p)) :
    ∃ (A : Option Addr) (cap : Nat) (ss : List ByteArray), cs = [.slice A ss.length cap] ∧ ss.length ≤ cap ∧ cap ≤ maxLen ∧ Kd.C Kd.string w A ss.length ss ∧ ∀ t ∈ ss, t.size ≤ 9223372036854775807 := by
  rcases DataW.trod_slice Tryd.underlying22 h with ⟨hcs, _⟩ | ⟨a, len, cap, elems, rest, n, _, hcs, hx, _, hl, hm, hlen, hel, _⟩
  · exact ⟨none, 0, [], hcs, Nat.le_refl _, Nat.zero_le _, Kd.C_nil _ _, fun t h => by cases h⟩
  · have one : ∀ i, i < len → ∃ s : ByteArray, w.cell? (a.add i) = some (.string s) ∧ s.size ≤ maxLen := by
      intro i hi
      have hE := hel i hi
      rw [cStr, Nat.mul_one] at hE
      have hlt : i < elems.length := by omega
      rw [List.getElem?_eq_getElem hlt] at hE
      simp only [Option.bind_eq_some_iff] at hE
      obtain ⟨c1, hc1, hy1⟩ := hE
      obtain ⟨s, e1, e2, e3⟩ := DataW.trod_string Tryd.underlying9 hy1
      subst e1
      refine ⟨s, ?_, e3⟩
      have e0 : (a.add i).add 0 = a.add i := by simp [Addr.add]
      unfold World.cells? at hc1
      split at hc1
      · simp only [List.range_succ, List.range_zero, List.nil_append, List.mapM_cons, List.mapM_nil, e0] at hc1
        cases hcc : w.cell? (a.add i) with
        | none => simp [hcc] at hc1
        | some c => simp [hcc] at hc1; rw [hc1]
      · cases hc1
    have all : ∀ k, k ≤ len → ∃ ss : List ByteArray, ss.length = k ∧ ∀ i s, ss[i]? = some s → w.cell? (a.add i) = some (.string s) ∧ s.size ≤ maxLen := by
      intro k
      induction k with
      | zero => exact fun _ => ⟨[], rfl, fun i s h => by simp at h⟩
      | succ k ih =>
        intro hk
        obtain ⟨ss, h1, h2⟩ := ih (by omega)
        obtain ⟨s, hs⟩ := one k (by omega)
        refine ⟨ss ++ [s], by simp [h1], fun i t hi => ?_⟩
        by_cases c : i < ss.length
        · rw [List.getElem?_append_left c] at hi; exact h2 i t hi
        · have hlt := (List.getElem?_eq_some_iff.1 hi).1
          simp only [List.length_append, List.length_cons, List.length_nil] at hlt
          have e : i = ss.length := by omega
          subst e
          rw [List.getElem?_append_right (Nat.le_refl _), Nat.sub_self] at hi
          obtain rfl : s = t := by simpa using hi
          rw [h1]; exact hs
    obtain ⟨ss, h1, h2⟩ := all len (Nat.le_refl _)
    subst h1
    have hm2 : maxLen ≤ 9223372036854775807 := by decide
    refine ⟨some a, cap, ss, hcs, hl, hm, ⟨rfl, by omega, fun _ => ⟨a, rfl, fun j s hj => ⟨[.string s], rfl, rfl, fun i u hu => ?_⟩⟩⟩, fun t ht => ?_⟩
    · match i, hu with
      | 0, hu =>
        obtain rfl : Value.string s = u := by simpa using hu
        have : j * Kd.string.sz + 0 = j := by show j * 1 + 0 = j; omega
        rw [this]; exact (h2 j s hj).1
    · obtain ⟨j, hj, e⟩ := List.getElem_of_mem ht
      have := (h2 j t (by rw [List.getElem?_eq_getElem hj, e])).2
      omega
end Go.Proofs.YtphnkoicfehalaaDoor.X

/- A marked text: the program's and the reference's come to one plain law. -/
import Derived.Test.YtphnkoicfehalaaDoorLookFnMarkAll
namespace Go.Proofs.YtphnkoicfehalaaDoor.DFnMarkAll
open Go.RowKit Go.Proofs.YtphnkoicfehalaaDoor.PFnMarkAll Go.Proofs.YtphnkoicfehalaaDoorW.PrintWords Go.Proofs.YtphnkoicfehalaaDoorW.PrintLast Go.Proofs.YtphnkoicfehalaaDoor.T Go.Proofs.YtphnkoicfehalaaDoor.X
set_option linter.unusedVariables false
set_option linter.unusedSimpArgs false

/-- The marked text of what was told, from place at on, of the words that are left. -/
def markFrom (s : ByteArray) (terms : List ByteArray) : ByteArray → Nat → List S42 → ByteArray
  | out, at_, [] => out ++ s.extract at_ s.size
  | out, at_, w :: ws => if hit terms w.f0 = true then markFrom s terms ((((out ++ s.extract at_ w.f1.toNat) ++ ⟨#[91]⟩) ++ w.f0) ++ ⟨#[93]⟩) w.f2.toNat ws else markFrom s terms out at_ ws
theorem rdT_nat (l : List S42) (k : Nat) (h : k < l.length) : rd_T42 l (k : Int) = l[k] := by
  unfold rd_T42; rw [Int.toNat_natCast, List.getD_eq_getElem?_getD, List.getElem?_eq_getElem h]; rfl
theorem one91 : (⟨#[91]⟩ : ByteArray).size = 1 := rfl
theorem one93 : (⟨#[93]⟩ : ByteArray).size = 1 := rfl
theorem spec_mark_loop (s : ByteArray) (terms : List ByteArray) (list : List S42) (hs : s.size ≤ 60) (ht : terms.length ≤ 1000000000000) (hl : list.length ≤ 60) :
    ∀ (d i a c : Nat) (out : ByteArray), list.length - i = d → i ≤ list.length → c ≤ a → okW s a (list.drop i) → out.size ≤ 200 * i →
      Ev (fun k => spec_Mark.l0 k s terms out (c : Int) list (i : Int)) (markFrom s terms out c (list.drop i)) := by
  intro d
  induction d with
  | zero =>
    intro i a c out hd hi hc hok ho
    have e : list.drop i = [] := List.drop_of_length_le (by omega)
    rw [e] at hok ⊢
    have hok' : a ≤ s.size := hok
    have z := size_extract s c s.size (by omega) (Nat.le_refl _)
    refine ev_succ ?_
    simp only [spec_Mark.l0]
    rw [Int.toNat_natCast]
    exact ev_neg (by omega) (ev_pos (by omega) (ev_pos (by omega) (ev_pos (by omega) ev_some)))
  | succ d ih =>
    intro i a c out hd hi hc hok ho
    have hi' : i < list.length := by omega
    rw [List.drop_eq_getElem_cons hi'] at hok ⊢
    obtain ⟨x, y, e, h1, h2, h3, _, _, h4⟩ := hok
    have z0 := size_extract s x y (by omega) h3
    have z1 := size_extract s c x (by omega) (by omega)
    refine ev_succ ?_
    simp only [spec_Mark.l0]
    rw [rdT_nat list i hi', e]
    simp only [markFrom, Int.toNat_natCast]
    refine ev_pos (by omega) (ev_pos (by omega) (ev_bind (spec_looked _ terms (by omega) ht) ?_))
    rw [w64' ((i : Int) + 1) (by omega) (by omega)]
    have q1 := size_append out (s.extract c x)
    have q2 := size_append (out ++ s.extract c x) ⟨#[91]⟩
    have q3 := size_append ((out ++ s.extract c x) ++ ⟨#[91]⟩) (s.extract x y)
    have q4 := size_append (((out ++ s.extract c x) ++ ⟨#[91]⟩) ++ s.extract x y) ⟨#[93]⟩
    rw [one91] at q2
    rw [one93] at q4
    refine ev_ite (fun h => ?_) (fun h => ?_)
    · rw [if_pos h]
      refine ev_pos (by omega) (ev_pos (by omega) (ev_pos (by omega) (ev_pos (by omega) (ev_pos (by omega) (ev_pos (by omega) (ev_pos (by omega) ?_))))))
      exact ih (i + 1) y y _ (by omega) (by omega) (Nat.le_refl _) h4 (by omega)
    · rw [if_neg h]
      exact ih (i + 1) y c out (by omega) (by omega) (by omega) h4 (by omega)
theorem impl_mark_loop (s : ByteArray) (terms : List ByteArray) (list : List S42) (hs : s.size ≤ 60) (ht : terms.length ≤ 1000000000000) (hl : list.length ≤ 60) :
    ∀ (d i a c : Nat) (out : ByteArray), list.length - i = d → i ≤ list.length → c ≤ a → okW s a (list.drop i) → out.size ≤ 200 * i →
      Ev (fun k => impl_Mark.l0 k s terms out (c : Int) list (list.length : Int) (i : Int)) (markFrom s terms out c (list.drop i)) := by
  intro d
  induction d with
  | zero =>
    intro i a c out hd hi hc hok ho
    have e : list.drop i = [] := List.drop_of_length_le (by omega)
    rw [e] at hok ⊢
    have hok' : a ≤ s.size := hok
    have z := size_extract s c s.size (by omega) (Nat.le_refl _)
    refine ev_succ ?_
    simp only [impl_Mark.l0]
    rw [Int.toNat_natCast]
    exact ev_neg (by omega) (ev_pos (by omega) (ev_pos (by omega) (ev_pos (by omega) ev_some)))
  | succ d ih =>
    intro i a c out hd hi hc hok ho
    have hi' : i < list.length := by omega
    rw [List.drop_eq_getElem_cons hi'] at hok ⊢
    obtain ⟨x, y, e, h1, h2, h3, _, _, h4⟩ := hok
    have z0 := size_extract s x y (by omega) h3
    have z1 := size_extract s c x (by omega) (by omega)
    refine ev_succ ?_
    simp only [impl_Mark.l0]
    rw [rdT_nat list i hi', e]
    simp only [markFrom, Int.toNat_natCast]
    refine ev_pos (by omega) (ev_pos (by omega) (ev_pos (by omega) (ev_bind0 (impl_bright_eq _ _ _ terms (by omega) ht) ?_)))
    rw [w64' ((i : Int) + 1) (by omega) (by omega)]
    have q2 := size_append (s.extract c x) ⟨#[91]⟩
    have q3 := size_append ((s.extract c x) ++ ⟨#[91]⟩) (s.extract x y)
    have q4 := size_append (((s.extract c x) ++ ⟨#[91]⟩) ++ s.extract x y) ⟨#[93]⟩
    have q5 := size_append out ((((s.extract c x) ++ ⟨#[91]⟩) ++ s.extract x y) ++ ⟨#[93]⟩)
    rw [one91] at q2
    rw [one93] at q4
    have ea : out ++ ((((s.extract c x) ++ ⟨#[91]⟩) ++ s.extract x y) ++ ⟨#[93]⟩) = (((out ++ s.extract c x) ++ ⟨#[91]⟩) ++ s.extract x y) ++ ⟨#[93]⟩ := bs_inj (by simp only [bs_append, List.append_assoc])
    refine ev_ite (fun h => ?_) (fun h => ?_)
    · rw [if_pos h, ← ea]
      refine ev_pos (by omega) (ev_pos (by omega) (ev_pos (by omega) (ev_pos (by omega) (ev_pos (by omega) (ev_pos (by omega) (ev_pos (by omega) ?_))))))
      exact ih (i + 1) y y _ (by omega) (by omega) (Nat.le_refl _) h4 (by omega)
    · rw [if_neg h]
      exact ih (i + 1) y c out (by omega) (by omega) (by omega) h4 (by omega)
/-- A marked text. -/
def markS (s : ByteArray) (terms : List ByteArray) : ByteArray := if txt s = true then markFrom s terms ⟨#[]⟩ 0 (wordsL s) else ⟨#[]⟩
theorem spec_mark (s : ByteArray) (terms : List ByteArray) (hs : s.size ≤ 1000000000000) (ht : terms.length ≤ 1000000000000) : Ev (fun k => spec_Mark.f k s terms) (markS s terms) := by
  unfold spec_Mark.f markS
  refine ev_bind (l2Text_ev s hs) ?_
  refine ev_ite (fun h => ?_) (fun h => ?_)
  · rw [if_pos h]
    have hz := txt_size h
    have hl := okW_length (okW_words s)
    refine ev_bind (spec_words s hs) ?_
    exact spec_mark_loop s terms (wordsL s) hz ht (by omega) (wordsL s).length 0 0 0 ⟨#[]⟩ (by omega) (by omega) (by omega) (okW_words s) (by show 0 ≤ _; omega)
  · rw [if_neg h]; exact ev_some
theorem impl_mark (s : ByteArray) (terms : List ByteArray) (hs : s.size ≤ 1000000000000) (ht : terms.length ≤ 1000000000000) : Ev (fun k => impl_Mark.f k s terms) (markS s terms) := by
  unfold impl_Mark.f markS
  refine ev_bind (textOk_ev s hs) ?_
  refine ev_ite (fun h => ?_) (fun h => ?_)
  · rw [if_pos h]
    have hz := txt_size h
    have hl := okW_length (okW_words s)
    refine ev_bind (impl_words s hs) ?_
    exact impl_mark_loop s terms (wordsL s) hz ht (by omega) (wordsL s).length 0 0 0 ⟨#[]⟩ (by omega) (by omega) (by omega) (okW_words s) (by show 0 ≤ _; omega)
  · rw [if_neg h]; exact ev_some
end Go.Proofs.YtphnkoicfehalaaDoor.DFnMarkAll

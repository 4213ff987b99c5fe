/- Words, small letters and what a word is looked for as: the program's and the reference's come to one plain law. -/
import Derived.Test.YtphnkoicfehalaaDoorPFnMarkAllx
import Derived.Test.YtphnkoicfehalaaDoorEv
import Derived.Test.YtphnkoicfehalaaDoorStem
import Derived.Lib.LazyBuf
namespace Go.Proofs.YtphnkoicfehalaaDoor.DFnMarkAll
open Go.RowKit Go.Proofs.YtphnkoicfehalaaDoor.PFnMarkAll Go.Proofs.YtphnkoicfehalaaDoorW.PrintWords Go.Proofs.YtphnkoicfehalaaDoorW.PrintLast Go.Proofs.YtphnkoicfehalaaDoor.T Go.Proofs.YtphnkoicfehalaaDoor.X
set_option linter.unusedVariables false
set_option linter.unusedSimpArgs false

/-! ### what may be in a cell -/
/-- A byte that can be seen, or a blank. -/
def vis (b : UInt8) : Bool := decide (32 ≤ b.toNat ∧ b.toNat ≤ 126)
/-- A text. -/
def txt (s : ByteArray) : Bool := (bs s).all vis && decide ((s.size : Int) ≤ 60)
theorem vis_bt (s : ByteArray) (i : Nat) (h : i < (bs s).length) : decide (32 ≤ bt s (i : Int) ∧ bt s (i : Int) ≤ 126) = vis ((bs s)[i]) := by
  rw [bt_bs s i h]; unfold vis
  exact decide_eq_decide.2 (by omega)
theorem within_eq (a b c : Int) : impl_within.f a b c = some (decide (b ≤ a ∧ a ≤ c)) := by
  unfold impl_within.f
  by_cases h : a ≥ b
  · rw [if_pos h]; congr 1; exact decide_eq_decide.2 (by omega)
  · rw [if_neg h]; congr 1; exact (decide_eq_false (by omega)).symm
theorem l1In_eq (a b c : Int) : spec_l1In.f a b c = some (decide (b ≤ a ∧ a ≤ c)) := by
  unfold spec_l1In.f
  by_cases h : a ≥ b
  · rw [if_pos h]; congr 1; exact decide_eq_decide.2 (by omega)
  · rw [if_neg h]; congr 1; exact (decide_eq_false (by omega)).symm
theorem plain_loop (s : ByteArray) (m : Int) (hs : s.size ≤ 1000000000000) : ∀ (d i : Nat), s.size - i = d → i ≤ s.size → Ev (fun k => impl_plain.l0 k s m (s.size : Int) (i : Int)) (((bs s).drop i).all vis && decide ((s.size : Int) ≤ m)) := by
  intro d
  induction d with
  | zero =>
    intro i h1 h2
    refine ev_succ ?_
    simp only [impl_plain.l0]
    refine ev_neg (by omega) ?_
    rw [List.drop_of_length_le (by rw [bs_length]; omega)]
    exact ev_eq (by simp)
  | succ d ih =>
    intro i h1 h2
    have hi : i < (bs s).length := by rw [bs_length]; omega
    have hr := bt_range s (i : Int)
    refine ev_succ ?_
    simp only [impl_plain.l0]
    refine ev_pos (by omega) (ev_pos (by omega) (ev_pos (by omega) ?_))
    rw [w64' (bt s (i : Int)) (by omega) (by omega)]
    refine ev_bind0 (within_eq _ _ _) ?_
    rw [vis_bt s i hi, List.drop_eq_getElem_cons hi, List.all_cons]
    cases hv : vis (bs s)[i] with
    | true =>
      refine ev_pos rfl ?_
      rw [w64' _ (by omega) (by omega), Bool.true_and]
      exact ih (i + 1) (by omega) (by omega)
    | false => exact ev_neg (by decide) (ev_eq (by simp))
theorem textOk_ev (s : ByteArray) (hs : s.size ≤ 1000000000000) : Ev (fun k => impl_textOk.f k s) (txt s) := by
  unfold impl_textOk.f impl_plain.f
  have := plain_loop s 60 hs s.size 0 (by omega) (by omega)
  rw [List.drop_zero] at this
  exact ev_bind this ev_some
theorem l2Text_loop (s : ByteArray) (hs : s.size ≤ 1000000000000) : ∀ (d i : Nat), s.size - i = d → i ≤ s.size → Ev (fun k => spec_l2Text.l0 k s (i : Int)) (((bs s).drop i).all vis && decide ((s.size : Int) ≤ 60)) := by
  intro d
  induction d with
  | zero =>
    intro i h1 h2
    refine ev_succ ?_
    simp only [spec_l2Text.l0]
    refine ev_neg (by omega) ?_
    rw [List.drop_of_length_le (by rw [bs_length]; omega)]
    exact ev_eq (by simp)
  | succ d ih =>
    intro i h1 h2
    have hi : i < (bs s).length := by rw [bs_length]; omega
    have hr := bt_range s (i : Int)
    refine ev_succ ?_
    simp only [spec_l2Text.l0]
    refine ev_pos (by omega) (ev_pos (by omega) ?_)
    rw [w64' (bt s (i : Int)) (by omega) (by omega)]
    refine ev_bind0 (l1In_eq _ _ _) ?_
    rw [vis_bt s i hi, List.drop_eq_getElem_cons hi, List.all_cons]
    cases hv : vis (bs s)[i] with
    | true =>
      refine ev_pos rfl ?_
      rw [w64' _ (by omega) (by omega), Bool.true_and]
      exact ih (i + 1) (by omega) (by omega)
    | false => exact ev_neg (by decide) (ev_eq (by simp))
theorem l2Text_ev (s : ByteArray) (hs : s.size ≤ 1000000000000) : Ev (fun k => spec_l2Text.f k s) (txt s) := by
  unfold spec_l2Text.f
  have := l2Text_loop s hs s.size 0 (by omega) (by omega)
  rw [List.drop_zero] at this
  exact this
theorem txt_size {s : ByteArray} (h : txt s = true) : s.size ≤ 60 := by
  unfold txt at h
  simp only [Bool.and_eq_true, decide_eq_true_eq] at h
  omega

/-! ### words -/
/-- A byte of a word. -/
def wb (b : Int) : Bool := decide ((65 ≤ b ∧ b ≤ 90) ∨ (97 ≤ b ∧ b ≤ 122) ∨ (48 ≤ b ∧ b ≤ 57))
theorem impl_word (b : Int) : impl_wordByte.f b = some (wb b) := by
  unfold impl_wordByte.f impl_upper.f impl_lower.f impl_digit.f wb
  by_cases h1 : b ≥ 65 <;> by_cases h2 : b ≤ 90 <;> by_cases h3 : b ≥ 97 <;> by_cases h4 : b ≤ 122 <;> by_cases h5 : b ≥ 48 <;> by_cases h6 : b ≤ 57 <;>
    first
    | (exfalso; omega)
    | (simp [h1, h2, h3, h4, h5, h6]; done)
    | (simp [h1, h2, h3, h4, h5, h6]; omega)
theorem spec_small (b : Int) (h : 0 ≤ b ∧ b ≤ 255) : spec_l1Small.f b = some (if 65 ≤ b ∧ b ≤ 90 then b + 32 else b) := by
  unfold spec_l1Small.f
  by_cases h1 : b ≥ 65
  · by_cases h2 : b ≤ 90
    · rw [if_pos h1, if_pos h2, if_pos ⟨h1, h2⟩, Int.emod_eq_of_lt (by omega) (by omega)]
    · rw [if_pos h1, if_neg h2, if_neg (by omega)]
  · rw [if_neg h1, if_neg (by omega)]
theorem spec_part (b : Int) (h : 0 ≤ b ∧ b ≤ 255) : spec_l1Part.f b = some (wb b) := by
  unfold spec_l1Part.f wb
  rw [spec_small b h]
  simp only [Option.bind_some]
  by_cases h1 : 65 ≤ b ∧ b ≤ 90
  · rw [if_pos h1, if_pos (by omega), if_pos (by omega)]; congr 1; exact (decide_eq_true (.inl h1)).symm
  · rw [if_neg h1]
    by_cases h3 : b ≥ 97
    · rw [if_pos h3]
      by_cases h4 : b ≤ 122
      · rw [if_pos h4]; congr 1; exact (decide_eq_true (by omega)).symm
      · rw [if_neg h4, if_pos (by omega)]; congr 1; exact decide_eq_decide.2 (by omega)
    · rw [if_neg h3]
      by_cases h5 : b ≥ 48
      · rw [if_pos h5]; congr 1; exact decide_eq_decide.2 (by omega)
      · rw [if_neg h5]; congr 1; exact (decide_eq_false (by omega)).symm

/-- The words of a text from place i on, where one may have begun at st. -/
def wordsFrom (s : ByteArray) (st i : Nat) : List S42 :=
  if h : i < s.size then
    (if wb (bt s i) = true then wordsFrom s st (i + 1) else if st < i then ⟨s.extract st i, st, i⟩ :: wordsFrom s (i + 1) (i + 1) else wordsFrom s (i + 1) (i + 1))
  else if st < i then [⟨s.extract st i, st, i⟩] else []
termination_by s.size - i
theorem wf_word {s : ByteArray} {st i : Nat} (h : i < s.size) (hw : wb (bt s i) = true) : wordsFrom s st i = wordsFrom s st (i + 1) := by rw [wordsFrom, dif_pos h, if_pos hw]
theorem wf_push {s : ByteArray} {st i : Nat} (h : i < s.size) (hw : wb (bt s i) = false) (hl : st < i) : wordsFrom s st i = ⟨s.extract st i, st, i⟩ :: wordsFrom s (i + 1) (i + 1) := by rw [wordsFrom, dif_pos h, if_neg (by simp [hw]), if_pos hl]
theorem wf_skip {s : ByteArray} {st i : Nat} (h : i < s.size) (hw : wb (bt s i) = false) (hl : ¬ st < i) : wordsFrom s st i = wordsFrom s (i + 1) (i + 1) := by rw [wordsFrom, dif_pos h, if_neg (by simp [hw]), if_neg hl]
theorem wf_last {s : ByteArray} {st i : Nat} (h : ¬ i < s.size) (hl : st < i) : wordsFrom s st i = [⟨s.extract st i, st, i⟩] := by rw [wordsFrom, dif_neg h, if_pos hl]
theorem wf_end {s : ByteArray} {st i : Nat} (h : ¬ i < s.size) (hl : ¬ st < i) : wordsFrom s st i = [] := by rw [wordsFrom, dif_neg h, if_neg hl]
def wordsL (s : ByteArray) : List S42 := wordsFrom s 0 0
/-- What a list of words of a text is, from place at on. -/
def okW (s : ByteArray) (at_ : Nat) : List S42 → Prop
  | [] => at_ ≤ s.size
  | w :: ws => ∃ a b : Nat, w = ⟨s.extract a b, a, b⟩ ∧ at_ ≤ a ∧ a < b ∧ b ≤ s.size ∧ (∀ j : Nat, a ≤ j → j < b → wb (bt s j) = true) ∧ (b < s.size → wb (bt s b) = false) ∧ okW s b ws
theorem okW_mono {s : ByteArray} : ∀ {ws : List S42} {a b : Nat}, a ≤ b → okW s b ws → okW s a ws
  | [], _, _, h, h' => Nat.le_trans h h'
  | _ :: _, _, _, h, ⟨x, y, e, h1, h2⟩ => ⟨x, y, e, Nat.le_trans h h1, h2⟩
theorem okW_length {s : ByteArray} : ∀ {ws : List S42} {a : Nat}, okW s a ws → ws.length + a ≤ s.size
  | [], _, h => by simpa [okW] using h
  | _ :: _, _, ⟨x, y, e, h1, h2, h3, _, _, h4⟩ => by
    have := okW_length h4
    simp only [List.length_cons]; omega
theorem okW_from (s : ByteArray) : ∀ (d st i : Nat), s.size - i = d → st ≤ i → i ≤ s.size → (∀ j : Nat, st ≤ j → j < i → wb (bt s j) = true) → okW s st (wordsFrom s st i) := by
  intro d
  induction d with
  | zero =>
    intro st i hd h1 h2 hw
    by_cases hl : st < i
    · rw [wf_last (by omega) hl]; exact ⟨st, i, rfl, Nat.le_refl _, hl, h2, hw, fun h => by omega, h2⟩
    · rw [wf_end (by omega) hl]; show st ≤ s.size; omega
  | succ d ih =>
    intro st i hd h1 h2 hw
    have hi : i < s.size := by omega
    cases hb : wb (bt s i) with
    | true =>
      rw [wf_word hi hb]
      refine ih st (i + 1) (by omega) (by omega) (by omega) fun j h3 h4 => ?_
      by_cases e : j = i
      · rw [e]; exact hb
      · exact hw j h3 (by omega)
    | false =>
      have hn := ih (i + 1) (i + 1) (by omega) (by omega) (by omega) fun j h3 h4 => by omega
      by_cases hl : st < i
      · rw [wf_push hi hb hl]
        exact ⟨st, i, rfl, Nat.le_refl _, hl, h2, hw, fun _ => hb, okW_mono (by omega) hn⟩
      · rw [wf_skip hi hb hl]
        exact okW_mono (by omega) hn
theorem okW_words (s : ByteArray) : okW s 0 (wordsL s) := okW_from s s.size 0 0 (by omega) (by omega) (by omega) fun j h3 h4 => by omega

theorem impl_l0_end (s : ByteArray) (acc : List S42) (i : Int) (h : ¬ i < (s.size : Int)) : Ev (fun k => impl_Words.l0 k s acc i) acc := by
  refine ev_succ ?_
  simp only [impl_Words.l0]
  exact ev_neg h ev_some
theorem impl_words_l1 (s : ByteArray) (hs : s.size ≤ 1000000000000) : ∀ (d i st : Nat) (acc : List S42), s.size - i = d → st ≤ i → i ≤ s.size → acc.length ≤ st →
    Ev (fun k => impl_Words.l1 k s acc (i : Int) (st : Int)) (acc ++ wordsFrom s st i) := by
  intro d
  induction d with
  | zero =>
    intro i st acc hd h1 h2 hz
    refine ev_succ ?_
    simp only [impl_Words.l1]
    refine ev_neg (by omega) ?_
    rw [w64' _ (by omega) (by omega)]
    by_cases hl : st < i
    · rw [wf_last (by omega) hl, Int.toNat_natCast, Int.toNat_natCast]
      exact ev_pos (by omega) (ev_pos (by omega) (ev_pos (by omega) (ev_pos (by omega) (ev_pos (by omega) (impl_l0_end _ _ _ (by omega))))))
    · rw [wf_end (by omega) hl, List.append_nil]
      exact ev_neg (by omega) (impl_l0_end _ _ _ (by omega))
  | succ d ih =>
    intro i st acc hd h1 h2 hz
    have hi : i < s.size := by omega
    have hnext : ∀ acc : List S42, acc.length ≤ i + 1 → Ev (fun k => impl_Words.l0 k s acc ((i : Int) + 1)) (acc ++ wordsFrom s (i + 1) (i + 1)) := by
      intro acc hz
      by_cases hi1 : i + 1 < s.size
      · refine ev_succ ?_
        simp only [impl_Words.l0]
        exact ev_pos (by omega) (ih (i + 1) (i + 1) acc (by omega) (by omega) (by omega) hz)
      · rw [wf_end hi1 (by omega), List.append_nil]
        exact impl_l0_end _ _ _ (by omega)
    refine ev_succ ?_
    simp only [impl_Words.l1]
    refine ev_pos (by omega) (ev_pos (by omega) (ev_bind0 (impl_word _) ?_))
    rw [w64' ((i : Int) + 1) (by omega) (by omega)]
    cases hb : wb (bt s i) with
    | true =>
      rw [wf_word hi hb]
      exact ev_pos rfl (ih (i + 1) st acc (by omega) (by omega) (by omega) hz)
    | false =>
      refine ev_neg (by decide) ?_
      by_cases hl : st < i
      · rw [wf_push hi hb hl, Int.toNat_natCast, Int.toNat_natCast]
        refine ev_pos (by omega) (ev_pos (by omega) (ev_pos (by omega) (ev_pos (by omega) (ev_pos (by omega) ?_))))
        exact ev_to (hnext _ (by simp; omega)) (by simp)
      · rw [wf_skip hi hb hl]
        exact ev_neg (by omega) (hnext _ (by omega))
theorem impl_words (s : ByteArray) (hs : s.size ≤ 1000000000000) : Ev (fun k => impl_Words.f k s) (wordsL s) := by
  unfold impl_Words.f
  by_cases h : 0 < s.size
  · refine ev_succ ?_
    simp only [impl_Words.l0]
    exact ev_pos (by omega) (impl_words_l1 s hs s.size 0 0 [] (by omega) (by omega) (by omega) (by simp))
  · have : wordsL s = [] := wf_end h (by omega)
    rw [this]
    exact impl_l0_end _ _ _ (by omega)
theorem spec_l0_end (s : ByteArray) (acc : List S42) (i : Int) (h : ¬ i < (s.size : Int)) : Ev (fun k => spec_Words.l0 k s acc i) acc := by
  refine ev_succ ?_
  simp only [spec_Words.l0]
  exact ev_neg h ev_some
theorem spec_words_l1 (s : ByteArray) (hs : s.size ≤ 1000000000000) : ∀ (d i st : Nat) (acc : List S42), s.size - i = d → st ≤ i → i ≤ s.size → acc.length ≤ st →
    Ev (fun k => spec_Words.l1 k s acc (st : Int) (i : Int)) (acc ++ wordsFrom s st i) := by
  intro d
  induction d with
  | zero =>
    intro i st acc hd h1 h2 hz
    refine ev_succ ?_
    simp only [spec_Words.l1]
    refine ev_neg (by omega) ?_
    by_cases hl : st < i
    · rw [wf_last (by omega) hl, Int.toNat_natCast, Int.toNat_natCast]
      exact ev_neg (by omega) (ev_pos (by omega) (ev_pos (by omega) (ev_pos (by omega) (ev_pos (by omega) (spec_l0_end _ _ _ (by omega))))))
    · rw [wf_end (by omega) hl, List.append_nil]
      refine ev_pos (by omega) (spec_l0_end _ _ _ ?_)
      rw [w64' _ (by omega) (by omega)]; omega
  | succ d ih =>
    intro i st acc hd h1 h2 hz
    have hi : i < s.size := by omega
    have hnext : ∀ acc : List S42, acc.length ≤ i + 1 → Ev (fun k => spec_Words.l0 k s acc ((i : Int) + 1)) (acc ++ wordsFrom s (i + 1) (i + 1)) := by
      intro acc hz
      by_cases hi1 : i + 1 < s.size
      · refine ev_succ ?_
        simp only [spec_Words.l0]
        exact ev_pos (by omega) (ih (i + 1) (i + 1) acc (by omega) (by omega) (by omega) hz)
      · rw [wf_end hi1 (by omega), List.append_nil]
        exact spec_l0_end _ _ _ (by omega)
    have hpart := spec_part (bt s i) (bt_range s i)
    cases hb : wb (bt s i) with
    | true =>
      rw [hb] at hpart
      refine ev_succ ?_
      simp only [spec_Words.l1]
      refine ev_pos (by omega) (ev_pos (by omega) (ev_bind0 hpart (ev_pos rfl ?_)))
      rw [w64' ((i : Int) + 1) (by omega) (by omega), wf_word hi hb]
      exact ih (i + 1) st acc (by omega) (by omega) (by omega) hz
    | false =>
      rw [hb] at hpart
      refine ev_succ ?_
      simp only [spec_Words.l1]
      refine ev_pos (by omega) (ev_pos (by omega) (ev_bind0 hpart (ev_neg (by decide) ?_)))
      by_cases hl : st < i
      · rw [wf_push hi hb hl, Int.toNat_natCast, Int.toNat_natCast]
        refine ev_neg (by omega) (ev_pos (by omega) (ev_pos (by omega) (ev_pos (by omega) (ev_pos (by omega) (ev_succ ?_)))))
        simp only [spec_Words.l0]
        refine ev_pos (by omega) (ev_succ ?_)
        simp only [spec_Words.l1]
        refine ev_pos (by omega) (ev_pos (by omega) (ev_bind0 hpart (ev_neg (by decide) (ev_pos trivial ?_))))
        rw [w64' ((i : Int) + 1) (by omega) (by omega)]
        exact ev_to (hnext _ (by simp; omega)) (by simp)
      · rw [wf_skip hi hb hl, w64' ((st : Int) + 1) (by omega) (by omega)]
        have e : st = i := by omega
        subst e
        exact ev_pos (by omega) (hnext _ (by omega))
theorem spec_words (s : ByteArray) (hs : s.size ≤ 1000000000000) : Ev (fun k => spec_Words.f k s) (wordsL s) := by
  unfold spec_Words.f
  by_cases h : 0 < s.size
  · refine ev_succ ?_
    simp only [spec_Words.l0]
    exact ev_pos (by omega) (spec_words_l1 s hs s.size 0 0 [] (by omega) (by omega) (by omega) (by simp))
  · have : wordsL s = [] := wf_end h (by omega)
    rw [this]
    exact spec_l0_end _ _ _ (by omega)
end Go.Proofs.YtphnkoicfehalaaDoor.DFnMarkAll

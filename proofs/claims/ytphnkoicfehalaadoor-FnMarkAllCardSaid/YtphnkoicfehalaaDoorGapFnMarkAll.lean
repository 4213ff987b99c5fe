/- A text's words and the gaps between them, told of its bytes. -/
import Derived.Test.YtphnkoicfehalaaDoorMarkFnMarkAll
namespace Go.Proofs.YtphnkoicfehalaaDoor.DFnMarkAll
open Go.RowKit Go.Proofs.YtphnkoicfehalaaDoor.PFnMarkAll Go.Proofs.YtphnkoicfehalaaDoorW.PrintWords Go.Proofs.YtphnkoicfehalaaDoorW.PrintLast Go.Proofs.YtphnkoicfehalaaDoor.T Go.Proofs.YtphnkoicfehalaaDoor.X
set_option linter.unusedVariables false
set_option linter.unusedSimpArgs false

def wu (b : UInt8) : Bool := wb (b.toNat : Int)
/-- The words of a row of bytes, of which the ones at hand have begun a word. -/
def wt : List UInt8 → List UInt8 → List (List UInt8)
  | cur, [] => if cur = [] then [] else [cur]
  | cur, b :: r => if wu b = true then wt (cur ++ [b]) r else if cur = [] then wt [] r else cur :: wt [] r
theorem wt_gap : ∀ (g r : List UInt8), (∀ b ∈ g, wu b = false) → wt [] (g ++ r) = wt [] r
  | [], r, _ => rfl
  | b :: g, r, h => by
    have hb := h b List.mem_cons_self
    rw [List.cons_append, wt, if_neg (by simp [hb]), if_pos rfl]
    exact wt_gap g r fun c hc => h c (List.mem_cons_of_mem _ hc)
theorem wt_word : ∀ (g cur r : List UInt8), (∀ b ∈ g, wu b = true) → wt cur (g ++ r) = wt (cur ++ g) r
  | [], cur, r, _ => by simp
  | b :: g, cur, r, h => by
    have hb := h b List.mem_cons_self
    rw [List.cons_append, wt, if_pos hb, wt_word g (cur ++ [b]) r fun c hc => h c (List.mem_cons_of_mem _ hc)]
    simp
/-- The row does not go on with a byte of a word. -/
def stopped (r : List UInt8) : Prop := ∀ b, r.head? = some b → wu b = false
theorem wt_stop {cur r : List UInt8} (h : stopped r) (hc : cur ≠ []) : wt cur r = cur :: wt [] r := by
  cases r with
  | nil => rw [wt, if_neg hc, wt, if_pos rfl]
  | cons b r =>
    have hb := h b rfl
    rw [wt, if_neg (by simp [hb]), if_neg hc, wt, if_neg (by simp [hb]), if_pos rfl]
theorem wu_bs (s : ByteArray) (j : Nat) (h : j < (bs s).length) : wb (bt s (j : Int)) = wu (bs s)[j] := by rw [bt_bs s j h]; rfl
theorem words_wt (s : ByteArray) : ∀ (d st i : Nat), s.size - i = d → st ≤ i → i ≤ s.size → (wordsFrom s st i).map (fun w => bs w.f0) = wt (((bs s).take i).drop st) ((bs s).drop i) := by
  intro d
  induction d with
  | zero =>
    intro st i hd h1 h2
    have e : (bs s).drop i = [] := List.drop_of_length_le (by rw [bs_length]; omega)
    have hlen : (((bs s).take i).drop st).length = i - st := by rw [List.length_drop, List.length_take, bs_length]; omega
    rw [e, wt]
    by_cases hl : st < i
    · rw [wf_last (by omega) hl, if_neg (fun hh => by rw [hh] at hlen; simp at hlen; omega)]
      simp only [List.map_cons, List.map_nil, bs_extract]
    · rw [wf_end (by omega) hl, if_pos (List.eq_nil_of_length_eq_zero (by omega))]; rfl
  | succ d ih =>
    intro st i hd h1 h2
    have hi : i < s.size := by omega
    have hi' : i < (bs s).length := by rw [bs_length]; exact hi
    have hlen : (((bs s).take i).drop st).length = i - st := by rw [List.length_drop, List.length_take, bs_length]; omega
    have hw := wu_bs s i hi'
    rw [List.drop_eq_getElem_cons hi', wt, ← hw]
    cases hb : wb (bt s (i : Int)) with
    | true =>
      rw [wf_word hi hb, ih st (i + 1) (by omega) (by omega) (by omega), if_pos rfl]
      congr 1
      rw [List.take_succ_eq_append_getElem hi', List.drop_append_of_le_length (by rw [List.length_take, bs_length]; omega)]
    | false =>
      have hn := ih (i + 1) (i + 1) (by omega) (by omega) (by omega)
      have en : ((bs s).take (i + 1)).drop (i + 1) = [] := List.drop_of_length_le (by rw [List.length_take]; omega)
      rw [en] at hn
      rw [if_neg (by decide)]
      by_cases hl : st < i
      · rw [wf_push hi hb hl, if_neg (fun hh => by rw [hh] at hlen; simp at hlen; omega), List.map_cons, hn]
        simp only [bs_extract]
      · rw [wf_skip hi hb hl, if_pos (List.eq_nil_of_length_eq_zero (by omega)), hn]
theorem words_eq (s : ByteArray) : (wordsL s).map (fun w => bs w.f0) = wt [] (bs s) := by
  have := words_wt s s.size 0 0 (by omega) (by omega) (by omega)
  rw [List.take_zero, List.drop_zero, List.drop_zero] at this
  exact this

/-- What a list of words of a text is, with the gaps between them. -/
def okG (s : ByteArray) (at_ : Nat) : List S42 → Prop
  | [] => at_ ≤ s.size ∧ ∀ b ∈ (bs s).drop at_, wu b = false
  | w :: ws => ∃ a b : Nat, w = ⟨s.extract a b, a, b⟩ ∧ at_ ≤ a ∧ a < b ∧ b ≤ s.size ∧ (∀ c ∈ ((bs s).take a).drop at_, wu c = false) ∧ (∀ c ∈ ((bs s).take b).drop a, wu c = true) ∧ stopped ((bs s).drop b) ∧ okG s b ws
theorem seg_all {s : ByteArray} {a b : Nat} {v : Bool} (h : ∀ j : Nat, a ≤ j → j < b → j < s.size → wb (bt s (j : Int)) = v) : ∀ c ∈ ((bs s).take b).drop a, wu c = v := by
  intro c hc
  obtain ⟨k, hk, e⟩ := List.getElem_of_mem hc
  have hk2 := hk
  rw [List.length_drop, List.length_take, bs_length] at hk2
  have hl : a + k < (bs s).length := by rw [bs_length]; omega
  rw [List.getElem_drop, List.getElem_take] at e
  rw [← e, ← wu_bs s (a + k) hl]
  exact h (a + k) (by omega) (by omega) (by omega)
theorem seg_end {s : ByteArray} {a : Nat} {v : Bool} (h : ∀ j : Nat, a ≤ j → j < s.size → wb (bt s (j : Int)) = v) : ∀ c ∈ (bs s).drop a, wu c = v := by
  have := seg_all (s := s) (a := a) (b := s.size) (v := v) fun j h1 h2 _ => h j h1 h2
  rwa [List.take_of_length_le (by rw [bs_length]; omega)] at this
theorem okG_from (s : ByteArray) : ∀ (d at_ st i : Nat), s.size - i = d → at_ ≤ st → st ≤ i → i ≤ s.size → (∀ j : Nat, at_ ≤ j → j < st → wb (bt s (j : Int)) = false) → (∀ j : Nat, st ≤ j → j < i → wb (bt s (j : Int)) = true) → okG s at_ (wordsFrom s st i) := by
  intro d
  induction d with
  | zero =>
    intro a st i hd h0 h1 h2 hg hw
    by_cases hl : st < i
    · rw [wf_last (by omega) hl]
      exact ⟨st, i, rfl, h0, hl, h2, seg_all (fun j x y _ => hg j x y), seg_all (fun j x y _ => hw j x y), (fun b hb => by
        rw [List.drop_of_length_le (by rw [bs_length]; omega)] at hb; cases hb), h2, seg_end (fun j x y => by omega)⟩
    · rw [wf_end (by omega) hl]
      exact ⟨by omega, seg_end fun j x y => hg j x (by omega)⟩
  | succ d ih =>
    intro a st i hd h0 h1 h2 hg hw
    have hi : i < s.size := by omega
    cases hb : wb (bt s (i : Int)) with
    | true =>
      rw [wf_word hi hb]
      refine ih a st (i + 1) (by omega) h0 (by omega) (by omega) hg fun j h3 h4 => ?_
      by_cases e : j = i
      · rw [e]; exact hb
      · exact hw j h3 (by omega)
    | false =>
      by_cases hl : st < i
      · rw [wf_push hi hb hl]
        refine ⟨st, i, rfl, h0, hl, h2, seg_all (fun j x y _ => hg j x y), seg_all (fun j x y _ => hw j x y), (fun b hbb => ?_), ?_⟩
        · have hi' : i < (bs s).length := by rw [bs_length]; exact hi
          rw [List.drop_eq_getElem_cons hi'] at hbb
          obtain rfl : (bs s)[i] = b := Option.some.inj hbb
          rw [← wu_bs s i hi']; exact hb
        · exact ih i (i + 1) (i + 1) (by omega) (by omega) (by omega) (by omega) (fun j h3 h4 => by rw [show j = i by omega]; exact hb) fun j h3 h4 => by omega
      · rw [wf_skip hi hb hl]
        refine ih a (i + 1) (i + 1) (by omega) (by omega) (by omega) (by omega) (fun j h3 h4 => ?_) fun j h3 h4 => by omega
        by_cases e : j = i
        · rw [e]; exact hb
        · exact hg j h3 (by omega)
theorem okG_words (s : ByteArray) : okG s 0 (wordsL s) := okG_from s s.size 0 0 0 (by omega) (by omega) (by omega) (by omega) (fun j x y => by omega) fun j x y => by omega
end Go.Proofs.YtphnkoicfehalaaDoor.DFnMarkAll

/- The plain law of FnMarkAll: all words that are looked for are marked, and no more; the marked text has the same words. -/
import Derived.Test.YtphnkoicfehalaaDoorGapFnMarkAll
import Derived.Test.YtphnkoicfehalaaDoorTextBFnMarkAll
import Derived.Test.YtphnkoicfehalaaDoorPFnMarkAllx6
namespace Go.Proofs.YtphnkoicfehalaaDoor.DFnMarkAll
open Go.RowKit Go.Proofs.YtphnkoicfehalaaDoor.PFnMarkAll Go.Proofs.YtphnkoicfehalaaDoorW.PrintWords Go.Proofs.YtphnkoicfehalaaDoorW.PrintLast Go.Proofs.YtphnkoicfehalaaDoor.T Go.Proofs.YtphnkoicfehalaaDoor.X
set_option linter.unusedVariables false
set_option linter.unusedSimpArgs false

def termsL (s : ByteArray) : List ByteArray := (wordsL s).map fun w => stemS w.f0
theorem terms_loop2 (list : List S42) (hl : list.length ≤ 1000000000000) (hz : ∀ w ∈ list, w.f0.size ≤ 1000000000000) : ∀ (d i : Nat) (out : List ByteArray), list.length - i = d → i ≤ list.length → out.length = i →
    Ev (fun k => impl_Terms.l0 k out list (list.length : Int) (i : Int)) (out ++ (list.drop i).map fun w => stemS w.f0) := by
  intro d
  induction d with
  | zero =>
    intro i out h1 h2 h3
    refine ev_succ ?_
    simp only [impl_Terms.l0]
    refine ev_neg (by omega) (ev_eq ?_)
    rw [List.drop_of_length_le (by omega)]; simp
  | succ d ih =>
    intro i out h1 h2 h3
    have hi : i < list.length := by omega
    have hzi := hz list[i] (List.getElem_mem _)
    refine ev_succ ?_
    simp only [impl_Terms.l0]
    rw [rdT_nat list i hi, w64' ((i : Int) + 1) (by omega) (by omega)]
    refine ev_pos (by omega) (ev_pos (by omega) (ev_pos (by omega) (ev_bind0 (impl_stem _ hzi) (ev_pos (by omega) ?_))))
    rw [List.drop_eq_getElem_cons hi]
    exact ev_to (ih (i + 1) (out ++ [stemS list[i].f0]) (by omega) (by omega) (by simp [h3])) (by rw [List.append_assoc, List.map_cons]; rfl)
theorem okW_mem {s : ByteArray} : ∀ {ws : List S42} {a : Nat}, okW s a ws → ∀ w ∈ ws, w.f0.size ≤ s.size
  | [], _, _, w, hw => by cases hw
  | w0 :: ws, _, ⟨x, y, e, _, _, _, _, _, h⟩, w, hw => by
    rcases List.mem_cons.1 hw with rfl | hw
    · rw [e]; exact size_le_extract s x y
    · exact okW_mem h w hw
theorem impl_terms (s : ByteArray) (hs : s.size ≤ 1000000000000) : Ev (fun k => impl_Terms.f k s) (termsL s) := by
  unfold impl_Terms.f termsL
  have hl := okW_length (okW_words s)
  refine ev_bind (impl_words s hs) ?_
  exact terms_loop2 (wordsL s) (by omega) (fun w hw => Nat.le_trans (okW_mem (okW_words s) w hw) hs) (wordsL s).length 0 [] (by omega) (by omega) rfl
theorem stemS_bs {a b : ByteArray} (h : bs a = bs b) : stemS a = stemS b := by rw [bs_inj h]
theorem termsL_of {s x : ByteArray} (h : wt [] (bs x) = wt [] (bs s)) : termsL x = termsL s := by
  have e := (words_eq x).trans (h.trans (words_eq s).symm)
  have e2 := congrArg (List.map fun l : List UInt8 => (⟨(stemC l).toArray⟩ : ByteArray)) e
  rw [List.map_map, List.map_map] at e2
  exact e2

section
variable (s : ByteArray) (terms : List ByteArray)
/-- What is told of the words that are left, with the gap ahead of each. -/
def tl : Nat → List S42 → List UInt8
  | a, [] => (bs s).drop a
  | a, w :: ws => ((bs s).take w.f1.toNat).drop a ++ (if hit terms w.f0 = true then 91 :: (bs w.f0 ++ 93 :: tl w.f2.toNat ws) else bs w.f0 ++ tl w.f2.toNat ws)
def cnt (ws : List S42) : Nat := (ws.filter fun w => hit terms w.f0).length
theorem cut3 (l : List UInt8) {a b c : Nat} (h1 : a ≤ b) (h2 : b ≤ c) : (l.take b).drop a ++ (l.take c).drop b = (l.take c).drop a := by
  have e : (l.take c).take b = l.take b := by rw [List.take_take, Nat.min_eq_left h2]
  rw [← e]
  have h := List.take_append_drop b (l.take c)
  by_cases hb : a ≤ ((l.take c).take b).length
  · have := congrArg (List.drop a) h
    rw [List.drop_append_of_le_length hb] at this
    exact this
  · have e1 : ((l.take c).take b).drop a = [] := List.drop_of_length_le (by omega)
    have e2 : (l.take c).length ≤ b := by rw [List.length_take] at hb; omega
    rw [e1, List.drop_of_length_le e2, List.drop_of_length_le (by rw [List.length_take] at hb; omega)]; rfl
theorem bs_mark : ∀ (ws : List S42) (out : ByteArray) (a c : Nat), okG s a ws → c ≤ a → bs (markFrom s terms out c ws) = bs out ++ (((bs s).take a).drop c ++ tl s terms a ws)
  | [], out, a, c, hok, hc => by
    rw [markFrom, bs_append, bs_extract, tl]
    have h := cut3 (bs s) (a := c) (b := a) (c := s.size) hc hok.1
    rw [List.take_of_length_le (i := s.size) (by rw [bs_length]; omega)] at h ⊢
    rw [h]
  | w :: ws, out, a, c, hok, hc => by
    obtain ⟨x, y, rfl, h1, h2, h3, h4, h5, h6, h7⟩ := hok
    rw [markFrom, tl]
    simp only [Int.toNat_natCast]
    have e1 := cut3 (bs s) (a := c) (b := a) (c := x) hc h1
    by_cases h : hit terms (s.extract x y) = true
    · rw [if_pos h, if_pos h, bs_mark ws _ y y h7 (Nat.le_refl _)]
      have e0 : ((bs s).take y).drop y = [] := List.drop_of_length_le (by rw [List.length_take]; omega)
      rw [e0]
      simp only [bs_append, bs_extract, List.append_assoc, List.nil_append]
      rw [← e1]
      simp only [List.append_assoc]
      rfl
    · rw [if_neg h, if_neg h, bs_mark ws _ y c h7 (by omega)]
      have e2 := cut3 (bs s) (a := c) (b := x) (c := y) (by omega) (by omega)
      rw [← e2, ← e1, bs_extract]
      simp only [List.append_assoc]
theorem tl_stop (ws : List S42) (a : Nat) (hok : okG s a ws) (hs : stopped ((bs s).drop a)) : stopped (tl s terms a ws) := by
  cases ws with
  | nil => exact hs
  | cons w ws =>
    obtain ⟨x, y, rfl, h1, h2, h3, h4, h5, h6, h7⟩ := hok
    have hl : a < (bs s).length := by rw [bs_length]; omega
    have hb : wu (bs s)[a] = false := hs _ (by rw [List.drop_eq_getElem_cons hl]; rfl)
    have hax : a < x := by
      by_cases c : a < x
      · exact c
      · have e : x = a := by omega
        subst e
        have hm : (bs s)[x] ∈ ((bs s).take y).drop x := by
          have hl2 : x < ((bs s).take y).length := by rw [List.length_take]; omega
          rw [List.drop_eq_getElem_cons hl2, List.getElem_take]; exact List.mem_cons_self
        rw [h5 _ hm] at hb; cases hb
    intro b hbb
    rw [tl] at hbb
    simp only [Int.toNat_natCast] at hbb
    have hl2 : a < ((bs s).take x).length := by rw [List.length_take]; omega
    rw [List.drop_eq_getElem_cons hl2, List.getElem_take] at hbb
    obtain rfl : (bs s)[a] = b := Option.some.inj hbb
    exact hb
theorem tl_words : ∀ (ws : List S42) (a : Nat), okG s a ws → wt [] (tl s terms a ws) = ws.map fun w => bs w.f0
  | [], a, hok => by
    have := wt_gap ((bs s).drop a) [] hok.2
    rw [List.append_nil] at this
    rw [tl, this]; rfl
  | w :: ws, a, hok => by
    have hok0 := hok
    obtain ⟨x, y, rfl, h1, h2, h3, h4, h5, h6, h7⟩ := hok
    have ih := tl_words ws y h7
    have hne : bs (s.extract x y) ≠ [] := fun h => by
      have := size_extract s x y (by omega) h3
      rw [← bs_length, h] at this; simp at this; omega
    rw [tl]
    simp only [Int.toNat_natCast]
    rw [wt_gap _ _ h4, List.map_cons]
    have hw : ∀ c ∈ bs (s.extract x y), wu c = true := by rw [bs_extract]; exact h5
    split
    · have e : wt [] (91 :: (bs (s.extract x y) ++ 93 :: tl s terms y ws)) = wt [] (bs (s.extract x y) ++ 93 :: tl s terms y ws) := wt_gap [91] _ (by decide)
      rw [e, wt_word _ _ _ hw, List.nil_append, wt_stop (fun b hb => by obtain rfl : (93 : UInt8) = b := Option.some.inj hb; decide) hne]
      exact congrArg _ ((wt_gap [93] _ (by decide)).trans ih)
    · rw [wt_word _ _ _ hw, List.nil_append, wt_stop (tl_stop s terms ws y h7 h6) hne, ih]
theorem tl_length : ∀ (ws : List S42) (a : Nat), okG s a ws → (tl s terms a ws).length + a = s.size + 2 * cnt terms ws
  | [], a, hok => by
    have := hok.1
    rw [tl, List.length_drop, bs_length]; simp [cnt]; omega
  | w :: ws, a, hok => by
    obtain ⟨x, y, rfl, h1, h2, h3, h4, h5, h6, h7⟩ := hok
    have ih := tl_length ws y h7
    have hz := size_extract s x y (by omega) h3
    rw [tl]
    simp only [Int.toNat_natCast]
    unfold cnt at ih ⊢
    by_cases h : hit terms (s.extract x y) = true
    · rw [if_pos h, List.filter_cons_of_pos (by simpa using h)]
      simp only [List.length_append, List.length_cons, List.length_drop, List.length_take, bs_length]
      omega
    · rw [if_neg h, List.filter_cons_of_neg (by simpa using h)]
      simp only [List.length_append, List.length_cons, List.length_drop, List.length_take, bs_length]
      omega
theorem count_nb {l : List UInt8} (h : nb l) : l.count 91 = 0 := List.count_eq_zero.2 fun hm => (h 91 hm).1 rfl
theorem tl_count (hnb : nb (bs s)) : ∀ (ws : List S42) (a : Nat), okG s a ws → (tl s terms a ws).count 91 = cnt terms ws
  | [], a, hok => by
    rw [tl, count_nb fun b hb => hnb b (List.mem_of_mem_drop hb)]; rfl
  | w :: ws, a, hok => by
    obtain ⟨x, y, rfl, h1, h2, h3, h4, h5, h6, h7⟩ := hok
    have ih := tl_count hnb ws y h7
    have g1 : (((bs s).take x).drop a).count 91 = 0 := count_nb fun b hb => hnb b (List.mem_of_mem_take (List.mem_of_mem_drop hb))
    have g2 : (bs (s.extract x y)).count 91 = 0 := count_nb fun b hb => hnb b (by rw [bs_extract] at hb; exact List.mem_of_mem_take (List.mem_of_mem_drop hb))
    rw [tl]
    simp only [Int.toNat_natCast]
    unfold cnt at ih ⊢
    by_cases h : hit terms (s.extract x y) = true
    · rw [if_pos h, List.filter_cons_of_pos (by simpa using h)]
      rw [List.count_append, List.count_cons, List.count_append, List.count_cons, g1, g2, ih]
      try simp
    · rw [if_neg h, List.filter_cons_of_neg (by simpa using h), List.count_append, List.count_append, g1, g2, ih]
      try simp
end
theorem texts_loop (l : List ByteArray) (hl : l.length ≤ 1048576) : ∀ (d i : Nat), l.length - i = d → i ≤ l.length → Ev (fun k => laws_sdTexts.l0 k l l (i : Int)) true := by
  intro d
  induction d with
  | zero =>
    intro i h1 h2
    refine ev_succ ?_
    simp only [laws_sdTexts.l0]
    exact ev_neg (by omega) ev_some
  | succ d ih =>
    intro i h1 h2
    refine ev_succ ?_
    simp only [laws_sdTexts.l0]
    rw [w64' ((i : Int) + 1) (by omega) (by omega)]
    exact ev_pos (by omega) (ev_pos (by omega) (ev_pos (by omega) (ev_pos trivial (ih (i + 1) (by omega) (by omega)))))
theorem texts_ev (l : List ByteArray) (hl : l.length ≤ 1048576) : Ev (fun k => laws_sdTexts.f k l l) true := by
  unfold laws_sdTexts.f
  exact ev_pos rfl (texts_loop l hl l.length 0 (by omega) (by omega))
def full (l : List ByteArray) : Nat := (l.filter fun t => decide (bs t ≠ [])).length
theorem full_ev (s x : ByteArray) (l : List ByteArray) (hl : l.length ≤ 1048576) {r : Bool} : ∀ (d i n : Nat), l.length - i = d → i ≤ l.length → n ≤ i →
    Ev (fun k => laws_FnMarkAll.l1 k s l x ((n + full (l.drop i) : Nat) : Int) 0 0) r → Ev (fun k => laws_FnMarkAll.l0 k s l x (n : Int) (i : Int)) r := by
  intro d
  induction d with
  | zero =>
    intro i n h1 h2 h3 h
    refine ev_succ ?_
    simp only [laws_FnMarkAll.l0]
    rw [List.drop_of_length_le (by omega)] at h
    exact ev_neg (by omega) h
  | succ d ih =>
    intro i n h1 h2 h3 h
    have hi : i < l.length := by omega
    rw [List.drop_eq_getElem_cons hi] at h
    refine ev_succ ?_
    simp only [laws_FnMarkAll.l0]
    rw [rdOf_nat l i hi, toList_bs, w64' ((i : Int) + 1) (by omega) (by omega), w64' ((n : Int) + 1) (by omega) (by omega)]
    refine ev_pos (by omega) (ev_pos (by omega) (ev_ite (fun c => ?_) (fun c => ?_)))
    · refine ih (i + 1) n (by omega) (by omega) (by omega) ?_
      unfold full at h ⊢
      rw [List.filter_cons_of_neg (by simp [c])] at h
      exact h
    · refine ih (i + 1) (n + 1) (by omega) (by omega) (by omega) ?_
      unfold full at h ⊢
      rw [List.filter_cons_of_pos (by simp [c]), List.length_cons] at h
      rw [show n + 1 + ((l.drop (i + 1)).filter fun t => decide (bs t ≠ [])).length = n + (((l.drop (i + 1)).filter fun t => decide (bs t ≠ [])).length + 1) by omega]
      exact h
theorem marks_ev (s x : ByteArray) (l : List ByteArray) (n : Nat) (hx : x.size ≤ 1000000) (hs : s.size ≤ 1000) (hn : n ≤ 1000) (hl : l.length ≤ 1000) (hz : x.size = s.size + 2 * n) (ht : termsL x = l) :
    ∀ (d i m : Nat), x.size - i = d → i ≤ x.size → m ≤ i → m + ((bs x).drop i).count 91 = n → Ev (fun k => laws_FnMarkAll.l1 k s l x (n : Int) (m : Int) (i : Int)) true := by
  intro d
  induction d with
  | zero =>
    intro i m h1 h2 h3 h4
    rw [List.drop_of_length_le (by rw [bs_length]; omega)] at h4
    have h4' : m = n := by simpa using h4
    refine ev_succ ?_
    simp only [laws_FnMarkAll.l1]
    rw [w64' (2 * (n : Int)) (by omega) (by omega), w64' ((s.size : Int) + 2 * (n : Int)) (by omega) (by omega)]
    refine ev_neg (by omega) (ev_pos (by omega) (ev_pos (by omega) (ev_bind (impl_terms x (by omega)) ?_)))
    rw [ht]
    exact ev_bind (texts_ev l (by omega)) ev_some
  | succ d ih =>
    intro i m h1 h2 h3 h4
    have hi : i < (bs x).length := by rw [bs_length]; omega
    rw [List.drop_eq_getElem_cons hi, List.count_cons] at h4
    refine ev_succ ?_
    simp only [laws_FnMarkAll.l1]
    rw [bt_bs x i hi, w64' ((i : Int) + 1) (by omega) (by omega), w64' ((m : Int) + 1) (by omega) (by omega)]
    refine ev_pos (by omega) (ev_pos (by omega) (ev_ite (fun c => ?_) (fun c => ?_)))
    · have e : (bs x)[i] = 91 := (u8_int _ 91).1 c
      rw [e] at h4
      exact ih (i + 1) (m + 1) (by omega) (by omega) (by omega) (by simp at h4; omega)
    · have e : ¬ (bs x)[i] = 91 := fun e => c ((u8_int _ 91).2 e)
      exact ih (i + 1) m (by omega) (by omega) (by omega) (by simpa [e] using h4)
theorem cnt_full (s : ByteArray) : cnt (termsL s) (wordsL s) = full (termsL s) := by
  unfold cnt full
  have e : (wordsL s).filter (fun w => hit (termsL s) w.f0) = (wordsL s).filter (fun w => decide (bs (stemS w.f0) ≠ [])) := by
    refine List.filter_congr fun w hw => ?_
    unfold hit
    rw [(hasS_iff (termsL s) (stemS w.f0)).2 (List.mem_map.2 ⟨w, hw, rfl⟩), Bool.and_true]
  have e2 : (termsL s).filter (fun t => decide (bs t ≠ [])) = ((wordsL s).filter (fun w => decide (bs (stemS w.f0) ≠ []))).map fun w => stemS w.f0 := by
    unfold termsL
    rw [List.filter_map]
    rfl
  rw [e, e2, List.length_map]
end Go.Proofs.YtphnkoicfehalaaDoor.DFnMarkAll
namespace Go.Proofs.YtphnkoicfehalaaDoor.Pure
open Go.RowKit Go.Proofs.YtphnkoicfehalaaDoor.PFnMarkAll Go.Proofs.YtphnkoicfehalaaDoorW.PrintWords Go.Proofs.YtphnkoicfehalaaDoorW.PrintLast Go.Proofs.YtphnkoicfehalaaDoor.T Go.Proofs.YtphnkoicfehalaaDoor.X Go.Proofs.YtphnkoicfehalaaDoor.DFnMarkAll
theorem FnMarkAll : laws_FnMarkAll.Pure := by
  intro l0 hm hz hw
  have key : Ev (fun k => laws_FnMarkAll.f k l0) true := by
    unfold laws_FnMarkAll.f
    refine ev_ite (fun _ => ev_some) (fun _ => ?_)
    obtain ⟨xs, ho, hx⟩ := open_ev l0 hw
    obtain ⟨s, p1, hs, g0, g1, g2, g3⟩ := anytext_dr xs hx 0 (by omega) (by omega)
    obtain ⟨terms, p2, ht, j0, j1, j2⟩ := terms_dr xs hx p1 (by omega) (by omega)
    have hd : Ev (fun k => spec_DrawMark.f k l0) (s, terms) := by
      unfold spec_DrawMark.f
      exact ev_bind0 ho (ev_bind hs (ev_bind ht ev_some))
    have hlen := okW_length (okW_words s)
    have htl : (termsL s).length = (wordsL s).length := by unfold termsL; rw [List.length_map]
    refine ev_bind hd (ev_bind (impl_terms s (by omega)) (ev_bind (impl_mark s (termsL s) (by omega) (by omega)) (ev_bind (spec_mark s (termsL s) (by omega) (by omega)) (ev_pos rfl ?_))))
    refine ev_succ ?_
    simp only [laws_FnMarkAll.j0]
    refine ev_ite (fun _ => ev_bind (spec_mark s (termsL s) (by omega) (by omega)) (ev_eq (by simp))) (fun h => ?_)
    have htx : txt s = true := by
      by_cases c : txt s = true
      · exact c
      · refine absurd ?_ h
        unfold markS
        rw [if_neg c, beq_iff_eq, toList_bs]; rfl
    have h60 := txt_size htx
    have hg := okG_words s
    have hb : bs (markS s (termsL s)) = tl s (termsL s) 0 (wordsL s) := by
      unfold markS
      rw [if_pos htx, bs_mark s (termsL s) (wordsL s) ⟨#[]⟩ 0 0 hg (Nat.le_refl _)]
      simp [bs]
    have hsz := tl_length s (termsL s) (wordsL s) 0 hg
    rw [← hb, bs_length, cnt_full] at hsz
    have hfl : full (termsL s) ≤ (termsL s).length := List.length_filter_le _ _
    have hcount := tl_count s (termsL s) g3 (wordsL s) 0 hg
    rw [← hb, cnt_full] at hcount
    have hwords := tl_words s (termsL s) (wordsL s) 0 hg
    rw [← hb, words_eq s] at hwords
    refine full_ev s _ (termsL s) (by omega) (termsL s).length 0 0 (by omega) (by omega) (by omega) ?_
    rw [List.drop_zero, Nat.zero_add]
    exact marks_ev s _ (termsL s) (full (termsL s)) (by omega) (by omega) (by omega) (by omega) (by omega) (termsL_of hwords) _ 0 0 rfl (by omega) (by omega) (by rw [List.drop_zero]; omega)
  obtain ⟨K, h⟩ := key
  exact ⟨K, h K (Nat.le_refl _)⟩
end Go.Proofs.YtphnkoicfehalaaDoor.Pure

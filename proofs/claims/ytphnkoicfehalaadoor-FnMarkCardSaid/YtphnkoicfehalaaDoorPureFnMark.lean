/- The plain law of FnMark: without its marks a text is as it was; what is marked is looked for; of no words nothing is marked. -/
import Derived.Test.YtphnkoicfehalaaDoorMarkFnMark
import Derived.Test.YtphnkoicfehalaaDoorTextBFnMark
import Derived.Test.YtphnkoicfehalaaDoorPFnMarkx6
namespace Go.Proofs.YtphnkoicfehalaaDoor.DFnMark
open Go.RowKit Go.Proofs.YtphnkoicfehalaaDoor.PFnMark Go.Proofs.YtphnkoicfehalaaDoorW.PrintWords Go.Proofs.YtphnkoicfehalaaDoorW.PrintLast Go.Proofs.YtphnkoicfehalaaDoor.T Go.Proofs.YtphnkoicfehalaaDoor.X
set_option linter.unusedVariables false
set_option linter.unusedSimpArgs false

theorem has_loop (l : List ByteArray) (v : ByteArray) (hl : l.length ≤ 1000000000000) : ∀ (d i : Nat), l.length - i = d → i ≤ l.length → Ev (fun k => laws_sdHas.l0 k l v (i : Int)) (hasS (l.drop i) v) := by
  intro d
  induction d with
  | zero =>
    intro i h1 h2
    refine ev_succ ?_
    simp only [laws_sdHas.l0]
    refine ev_neg (by omega) (ev_eq ?_)
    rw [List.drop_of_length_le (by omega), hasS_nil]
  | succ d ih =>
    intro i h1 h2
    have hi : i < l.length := by omega
    refine ev_succ ?_
    simp only [laws_sdHas.l0]
    refine ev_pos (by omega) (ev_pos (by omega) ?_)
    rw [List.drop_eq_getElem_cons hi]
    refine ev_ite (fun h => ev_eq ?_) (fun h => ?_)
    · rw [in_loop_eq l v i hi] at h
      rw [h, hasS_same]
    · rw [in_loop_eq l v i hi] at h
      rw [w64' _ (by omega) (by omega)]
      rw [hasS_other _ _ _ h]
      exact ih (i + 1) (by omega) (by omega)
theorem has_ev (l : List ByteArray) (v : ByteArray) (hl : l.length ≤ 1000000000000) : Ev (fun k => laws_sdHas.f k l v) (hasS l v) := by
  unfold laws_sdHas.f
  exact has_loop l v hl l.length 0 (by omega) (by omega)

/-- What is still told of a marked text, from place at on, of the words that are left. -/
def tailL (s : ByteArray) (terms : List ByteArray) : Nat → List S42 → List UInt8
  | at_, [] => (bs s).drop at_
  | at_, w :: ws => if hit terms w.f0 = true then ((bs s).take w.f1.toNat).drop at_ ++ 91 :: (bs w.f0 ++ 93 :: tailL s terms w.f2.toNat ws) else tailL s terms at_ ws
theorem bs_markFrom (s : ByteArray) (terms : List ByteArray) : ∀ (ws : List S42) (out : ByteArray) (a : Nat), bs (markFrom s terms out a ws) = bs out ++ tailL s terms a ws
  | [], out, a => by
    rw [markFrom, bs_append, bs_extract, tailL, List.take_of_length_le (by rw [bs_length]; omega)]
  | w :: ws, out, a => by
    rw [markFrom, tailL]
    by_cases h : hit terms w.f0 = true
    · rw [if_pos h, if_pos h, bs_markFrom s terms ws]
      simp only [bs_append, bs_extract, List.append_assoc]
      rfl
    · rw [if_neg h, if_neg h]; exact bs_markFrom s terms ws out a
theorem markFrom_none (s : ByteArray) : ∀ (ws : List S42) (out : ByteArray) (a : Nat), markFrom s [] out a ws = out ++ s.extract a s.size
  | [], out, a => rfl
  | w :: ws, out, a => by
    have h : hit [] w.f0 = false := by unfold hit; rw [hasS_nil]; simp
    rw [markFrom, if_neg (by simp [h])]
    exact markFrom_none s ws out a
theorem markS_none (s : ByteArray) (h : txt s = true) : markS s [] = s := by
  unfold markS
  rw [if_pos h, markFrom_none]
  refine bs_inj ?_
  rw [bs_append, bs_extract, List.drop_zero, List.take_of_length_le (by rw [bs_length]; omega)]
  rfl

section
variable (s x : ByteArray) (terms : List ByteArray)
/-- A byte of the text at hand. -/
theorem at_byte {b : UInt8} {rest : List UInt8} {i : Nat} (h : (bs x).drop i = b :: rest) : i < x.size ∧ bt x (i : Int) = (b.toNat : Int) ∧ (bs x).drop (i + 1) = rest := by
  have hl : i < (bs x).length := by
    by_cases hh : i < (bs x).length
    · exact hh
    · rw [List.drop_of_length_le (by omega)] at h; cases h
  rw [List.drop_eq_getElem_cons hl] at h
  injection h with h1 h2
  refine ⟨by rw [bs_length] at hl; exact hl, ?_, h2⟩
  rw [bt_bs x i hl, h1]
theorem seg_ev (hx : x.size ≤ 1000000) {r : Bool} {op : Int} : ∀ (seg rest : List UInt8) (plain : List Int) (i : Nat), nb seg → (bs x).drop i = seg ++ rest → plain.length ≤ i →
    Ev (fun k => laws_FnMark.l0 k s terms x (plain ++ seg.map fun b => (b.toNat : Int)) op ((i + seg.length : Nat) : Int)) r → Ev (fun k => laws_FnMark.l0 k s terms x plain op (i : Int)) r
  | [], rest, plain, i, _, _, _, h => by simpa using h
  | b :: seg, rest, plain, i, hn, hd, hp, h => by
    obtain ⟨hi, hb, hr⟩ := at_byte x (show (bs x).drop i = b :: (seg ++ rest) from hd)
    have hnb := hn b List.mem_cons_self
    have n1 : ¬ ((b.toNat : Int) = 91) := fun e => hnb.1 (UInt8.toNat_inj.1 (by show b.toNat = 91; omega))
    have n2 : ¬ ((b.toNat : Int) = 93) := fun e => hnb.2 (UInt8.toNat_inj.1 (by show b.toNat = 93; omega))
    have ih := seg_ev hx seg rest (plain ++ [(b.toNat : Int)]) (i + 1) (fun c hc => hn c (List.mem_cons_of_mem _ hc)) hr (by simp; omega) (by
      rw [List.append_assoc]
      have e : i + 1 + seg.length = i + (b :: seg).length := by simp only [List.length_cons]; omega
      rw [e]
      exact h)
    refine ev_succ ?_
    simp only [laws_FnMark.l0]
    rw [hb]
    refine ev_pos (by omega) (ev_pos (by omega) (ev_neg n1 (ev_neg n2 (ev_pos (by omega) ?_))))
    rw [w64' _ (by omega) (by omega)]
    exact ih
theorem word_nb {a b : Nat} (h : b ≤ s.size) (hw : ∀ j : Nat, a ≤ j → j < b → wb (bt s j) = true) : nb (bs (s.extract a b)) := by
  intro c hc
  obtain ⟨k, hk, e⟩ := List.getElem_of_mem hc
  have hk' := hk
  rw [bs_length] at hk'
  have hle : k < b - a := by
    rw [bs_extract] at hk
    rw [List.length_drop, List.length_take, bs_length] at hk
    omega
  have hj := hw (a + k) (by omega) (by omega)
  have hl : a + k < (bs s).length := by rw [bs_length]; omega
  rw [bt_bs s (a + k) hl] at hj
  have e2 : (bs s)[a + k] = c := by
    rw [← e]
    simp only [bs_extract]
    rw [List.getElem_drop, List.getElem_take]
  rw [e2] at hj
  unfold wb at hj
  rw [decide_eq_true_eq] at hj
  constructor
  · rintro rfl
    exact absurd hj (by decide)
  · rintro rfl
    exact absurd hj (by decide)
theorem walk_ev (hx : x.size ≤ 1000000) (hs : s.size ≤ 60) (hnb : nb (bs s)) (ht : terms.length ≤ 1000000000000) (htx : txt s = true) :
    ∀ (ws : List S42) (a c i : Nat) (op : Int), okW s a ws → c ≤ a → c ≤ i → (bs x).drop i = tailL s terms c ws →
      Ev (fun k => laws_FnMark.l0 k s terms x (((bs s).take c).map fun b => (b.toNat : Int)) op (i : Int)) true
  | [], a, c, i, op, hok, hc, hci, hd => by
    rw [tailL] at hd
    refine seg_ev s x terms hx ((bs s).drop c) [] _ i (fun b hb => hnb b (List.mem_of_mem_drop hb)) (by simpa using hd) (by simp; omega) ?_
    rw [← List.map_append, List.take_append_drop]
    have hlen : x.size ≤ i + ((bs s).drop c).length := by
      have := congrArg List.length hd
      rw [List.length_drop, bs_length] at this
      omega
    refine ev_succ ?_
    simp only [laws_FnMark.l0]
    refine ev_neg (by omega) (ev_pos ?_ ?_)
    · rw [Lib.Lz.strOfNums_map]; rfl
    · refine ev_bind (impl_mark s [] (by omega) (by simp)) (ev_eq ?_)
      rw [markS_none s htx]; simp
  | w :: ws, a, c, i, op, hok, hc, hci, hd => by
    obtain ⟨p, q, rfl, h1, h2, h3, h4, _, h5⟩ := hok
    rw [tailL] at hd
    simp only [Int.toNat_natCast] at hd
    by_cases h : hit terms (s.extract p q) = true
    · rw [if_pos h] at hd
      have z1 : (((bs s).take p).drop c).length = p - c := by rw [List.length_drop, List.length_take, bs_length]; omega
      have z2 : (bs (s.extract p q)).length = q - p := by rw [bs_length]; exact size_extract s p q (by omega) h3
      refine seg_ev s x terms hx _ _ _ i (fun b hb => hnb b (List.mem_of_mem_take (List.mem_of_mem_drop hb))) hd (by simp; omega) ?_
      have hd1 : (bs x).drop (i + (((bs s).take p).drop c).length) = 91 :: (bs (s.extract p q) ++ 93 :: tailL s terms q ws) := by
        rw [← List.drop_drop, hd, List.drop_left]
      obtain ⟨i1, b1, hd2⟩ := at_byte x hd1
      have eP : ((bs s).take c).map (fun b => (b.toNat : Int)) ++ (((bs s).take p).drop c).map (fun b => (b.toNat : Int)) = ((bs s).take p).map fun b => (b.toNat : Int) := by
        rw [← List.map_append]
        congr 1
        have := List.take_append_drop c ((bs s).take p)
        rw [List.take_take, Nat.min_eq_left (by omega)] at this
        exact this
      rw [eP]
      generalize hj : i + (((bs s).take p).drop c).length = j at *
      refine ev_succ ?_
      simp only [laws_FnMark.l0]
      rw [b1]
      refine ev_pos (by omega) (ev_pos (by omega) (ev_pos (by decide) ?_))
      rw [w64' _ (by omega) (by omega)]
      refine seg_ev s x terms hx _ _ _ (j + 1) (word_nb s h3 h4) hd2 (by simp; omega) ?_
      have hd3 : (bs x).drop (j + 1 + (bs (s.extract p q)).length) = 93 :: tailL s terms q ws := by
        rw [← List.drop_drop, hd2, List.drop_left]
      obtain ⟨i3, b3, hd4⟩ := at_byte x hd3
      have eW : x.extract (j + 1) (j + 1 + (bs (s.extract p q)).length) = s.extract p q := by
        refine bs_inj ?_
        rw [bs_extract, List.drop_take, hd2]
        rw [show j + 1 + (bs (s.extract p q)).length - (j + 1) = (bs (s.extract p q)).length by omega, List.take_left]
      have eQ : ((bs s).take p).map (fun b => (b.toNat : Int)) ++ (bs (s.extract p q)).map (fun b => (b.toNat : Int)) = ((bs s).take q).map fun b => (b.toNat : Int) := by
        rw [← List.map_append, bs_extract]
        congr 1
        have := List.take_append_drop p ((bs s).take q)
        rw [List.take_take, Nat.min_eq_left (by omega)] at this
        exact this
      rw [eQ]
      have hh := h
      unfold hit at hh
      rw [Bool.and_eq_true, decide_eq_true_eq] at hh
      have ih := walk_ev hx hs hnb ht htx ws q q (j + 1 + (bs (s.extract p q)).length + 1) (((j + 1 : Nat)) : Int) h5 (Nat.le_refl _) (by omega) hd4
      generalize hm : j + 1 + (bs (s.extract p q)).length = m at *
      have hzw : (s.extract p q).size ≤ 60 := by rw [bs_length] at z2; omega
      refine ev_succ ?_
      simp only [laws_FnMark.l0]
      rw [b3, show ((j : Int) + 1) = ((j + 1 : Nat) : Int) from rfl, Int.toNat_natCast, Int.toNat_natCast, eW]
      refine ev_pos (by omega) (ev_pos (by omega) (ev_neg (by decide) (ev_pos (by decide) (ev_pos (by omega) (ev_pos (by omega) (ev_pos (by omega) ?_))))))
      refine ev_bind0 (impl_stem _ (by omega)) (ev_bind (has_ev terms _ ht) (ev_pos hh.2 (ev_bind0 (impl_stem _ (by omega)) (ev_neg ?_ ?_))))
      · rw [toList_bs]; exact hh.1
      · rw [w64' _ (by omega) (by omega)]
        exact ih
    · rw [if_neg h] at hd
      exact walk_ev hx hs hnb ht htx ws q c i op h5 (by omega) hci hd
end
theorem markS_size (s : ByteArray) (terms : List ByteArray) (hs : s.size ≤ 60) : ∀ (ws : List S42) (a c : Nat), okW s a ws → c ≤ a → (tailL s terms c ws).length ≤ 60 + 200 * ws.length
  | [], a, c, _, _ => by rw [tailL, List.length_drop, bs_length]; omega
  | w :: ws, a, c, hok, hc => by
    obtain ⟨p, q, rfl, h1, h2, h3, h4, _, h5⟩ := hok
    have ih := markS_size s terms hs ws q q h5 (Nat.le_refl _)
    have ih2 := markS_size s terms hs ws q c h5 (by omega)
    rw [tailL]
    simp only [Int.toNat_natCast]
    split
    · have := size_le_extract s p q
      simp only [List.length_append, List.length_cons, List.length_drop, List.length_take, bs_length]
      omega
    · simp only [List.length_cons]; omega
end Go.Proofs.YtphnkoicfehalaaDoor.DFnMark
namespace Go.Proofs.YtphnkoicfehalaaDoor.Pure
open Go.RowKit Go.Proofs.YtphnkoicfehalaaDoor.PFnMark Go.Proofs.YtphnkoicfehalaaDoorW.PrintWords Go.Proofs.YtphnkoicfehalaaDoorW.PrintLast Go.Proofs.YtphnkoicfehalaaDoor.T Go.Proofs.YtphnkoicfehalaaDoor.X Go.Proofs.YtphnkoicfehalaaDoor.DFnMark
theorem FnMark : laws_FnMark.Pure := by
  intro l0 hm hz hw
  have key : Ev (fun k => laws_FnMark.f k l0) true := by
    unfold laws_FnMark.f
    refine ev_ite (fun _ => ev_some) (fun _ => ?_)
    obtain ⟨xs, ho, hx⟩ := open_ev l0 hw
    obtain ⟨s, p1, hs, g0, g1, g2, g3⟩ := anytext_dr xs hx 0 (by omega) (by omega)
    obtain ⟨terms, p2, ht, j0, j1, j2⟩ := terms_dr xs hx p1 (by omega) (by omega)
    have hd : Ev (fun k => spec_DrawMark.f k l0) (s, terms) := by
      unfold spec_DrawMark.f
      exact ev_bind0 ho (ev_bind hs (ev_bind ht ev_some))
    refine ev_bind hd (ev_bind (impl_mark s terms (by omega) (by omega)) (ev_bind (spec_mark s terms (by omega) (by omega)) (ev_pos rfl ?_)))
    refine ev_succ ?_
    simp only [laws_FnMark.j0]
    refine ev_ite (fun _ => ev_bind (spec_mark s terms (by omega) (by omega)) (ev_eq (by simp))) (fun h => ?_)
    have htx : txt s = true := by
      by_cases c : txt s = true
      · exact c
      · refine absurd ?_ h
        unfold markS
        rw [if_neg c, beq_iff_eq, toList_bs]; rfl
    have h60 := txt_size htx
    have hb : bs (markS s terms) = tailL s terms 0 (wordsL s) := by
      unfold markS
      rw [if_pos htx, bs_markFrom]; rfl
    have hsz : (markS s terms).size ≤ 1000000 := by
      rw [← bs_length, hb]
      have := markS_size s terms h60 (wordsL s) 0 0 (okW_words s) (Nat.le_refl _)
      have := okW_length (okW_words s)
      omega
    exact walk_ev s (markS s terms) terms hsz h60 g3 (by omega) htx (wordsL s) 0 0 0 0 (okW_words s) (Nat.le_refl _) (Nat.le_refl _) (by rw [List.drop_zero]; exact hb)
  obtain ⟨K, h⟩ := key
  exact ⟨K, h K (Nat.le_refl _)⟩
end Go.Proofs.YtphnkoicfehalaaDoor.Pure

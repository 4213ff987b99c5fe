/- What a word is looked for as, and whether it is looked for: the program's and the reference's come to one plain law. -/
import Derived.Test.YtphnkoicfehalaaDoorWordsFnMarkAll
namespace Go.Proofs.YtphnkoicfehalaaDoor.DFnMarkAll
open Go.RowKit Go.Proofs.YtphnkoicfehalaaDoor.PFnMarkAll Go.Proofs.YtphnkoicfehalaaDoorW.PrintWords Go.Proofs.YtphnkoicfehalaaDoorW.PrintLast Go.Proofs.YtphnkoicfehalaaDoor.T Go.Proofs.YtphnkoicfehalaaDoor.X
set_option linter.unusedVariables false
set_option linter.unusedSimpArgs false

theorem small_low (s : ByteArray) (i : Nat) (h : i < (bs s).length) : spec_l1Small.f (bt s (i : Int)) = some ((lowB (bs s)[i]).toNat : Int) := by
  rw [spec_small _ (bt_range s i), bt_bs s i h]
  generalize (bs s)[i] = b
  congr 1
  unfold lowB
  by_cases c : 65 ≤ b.toNat ∧ b.toNat ≤ 90
  · rw [if_pos (by omega), if_pos c, UInt8.toNat_add]
    show (b.toNat : Int) + 32 = (((b.toNat + 32) % 256 : Nat) : Int)
    omega
  · rw [if_neg (by omega), if_neg c]
theorem fold_loop (s : ByteArray) (hs : s.size ≤ 1000000000000) : ∀ (d i : Nat), s.size - i = d → i ≤ s.size → Ev (fun k => spec_Fold.l0 k s ((((bs s).take i).map lowB).map fun b => (b.toNat : Int)) (i : Int)) (foldS s) := by
  intro d
  induction d with
  | zero =>
    intro i h1 h2
    refine ev_succ ?_
    simp only [spec_Fold.l0]
    refine ev_neg (by omega) (ev_eq ?_)
    rw [Lib.Lz.strOfNums_map, List.take_of_length_le (by rw [bs_length]; omega)]
    rfl
  | succ d ih =>
    intro i h1 h2
    have hi : i < (bs s).length := by rw [bs_length]; omega
    refine ev_succ ?_
    simp only [spec_Fold.l0]
    refine ev_pos (by omega) (ev_pos (by omega) (ev_bind0 (small_low s i hi) (ev_pos (by simp; omega) ?_)))
    rw [w64' ((i : Int) + 1) (by omega) (by omega)]
    have := ih (i + 1) (by omega) (by omega)
    rw [List.take_succ_eq_append_getElem hi, List.map_append, List.map_append] at this
    exact this
theorem spec_fold (s : ByteArray) (hs : s.size ≤ 1000000000000) : Ev (fun k => spec_Fold.f k s) (foldS s) := by
  unfold spec_Fold.f
  exact fold_loop s hs s.size 0 (by omega) (by omega)

theorem in_loop_eq (l : List ByteArray) (v : ByteArray) (k : Nat) (h : k < l.length) : (rdOf ByteArray.empty l (k : Int)).toList = v.toList ↔ l[k] = v := by
  rw [rdOf_nat l k h, toList_bs, toList_bs]
  exact ⟨bs_inj, fun h => by rw [h]⟩
theorem hasS_nil (v : ByteArray) : hasS [] v = false := rfl
theorem hasS_same (l : List ByteArray) (v : ByteArray) : hasS (v :: l) v = true := (hasS_iff _ _).2 List.mem_cons_self
theorem hasS_other (l : List ByteArray) (a v : ByteArray) (h : a ≠ v) : hasS (a :: l) v = hasS l v := by
  rw [Bool.eq_iff_iff, hasS_iff, hasS_iff, List.mem_cons]
  exact ⟨fun hh => hh.resolve_left fun e => h e.symm, .inr⟩
theorem stop_loop (l : List ByteArray) (v : ByteArray) (hl : l.length ≤ 1000000000000) : ∀ (d i : Nat), l.length - i = d → i ≤ l.length → Ev (fun k => spec_l1Stop.l0 k v l (i : Int)) (hasS (l.drop i) v) := by
  intro d
  induction d with
  | zero =>
    intro i h1 h2
    refine ev_succ ?_
    simp only [spec_l1Stop.l0]
    refine ev_neg (by omega) (ev_eq ?_)
    rw [List.drop_of_length_le (by omega), hasS_nil]; try simp
  | succ d ih =>
    intro i h1 h2
    have hi : i < l.length := by omega
    refine ev_succ ?_
    simp only [spec_l1Stop.l0]
    refine ev_pos (by omega) (ev_pos (by omega) ?_)
    rw [List.drop_eq_getElem_cons hi]
    refine ev_ite (fun h => ev_eq ?_) (fun h => ?_)
    · rw [in_loop_eq l v i hi] at h
      rw [h, hasS_same]
    · rw [in_loop_eq l v i hi] at h
      rw [w64' _ (by omega) (by omega)]
      rw [hasS_other _ _ _ h]
      exact ih (i + 1) (by omega) (by omega)
theorem stop_ev (v : ByteArray) : Ev (fun k => spec_l1Stop.f k v) (hasS stopsL v) := by
  unfold spec_l1Stop.f
  exact stop_loop stopsL v (by decide) stopsL.length 0 (by omega) (by omega)
/-- The part of the law behind the cut to twelve. -/
def stemT (w : List UInt8) : List UInt8 := if 3 < w.length ∧ w.getD (w.length - 1) 0 = 115 ∧ w.getD (w.length - 2) 0 ≠ 115 then w.take (w.length - 1) else w
theorem stemC_eq (s : List UInt8) : stemC s = if stemT ((s.map lowB).take 12) ∈ stopsL.map bs then [] else stemT ((s.map lowB).take 12) := rfl
theorem mem_stops (v : ByteArray) : v ∈ stopsL ↔ bs v ∈ stopsL.map bs := by
  rw [List.mem_map]
  exact ⟨fun h => ⟨v, h, rfl⟩, fun ⟨a, h, e⟩ => bs_inj e ▸ h⟩
theorem stem_fin (t : ByteArray) : Ev (fun k => (spec_l1Stop.f k t).bind fun b => if b = true then some (⟨#[]⟩ : ByteArray) else some t) (⟨(if bs t ∈ stopsL.map bs then [] else bs t).toArray⟩ : ByteArray) := by
  refine ev_bind (stop_ev t) ?_
  by_cases h : t ∈ stopsL
  · rw [if_pos ((mem_stops t).1 h), (hasS_iff _ _).2 h]; exact ev_pos rfl ev_some
  · rw [if_neg (fun e => h ((mem_stops t).2 e)), Bool.eq_false_iff.2 (fun e => h ((hasS_iff _ _).1 e))]
    exact ev_neg (by decide) (ev_eq (bs_inj (bs_mk _).symm))
theorem stem_j1 (t : ByteArray) (b : Bool) (hz : t.size ≤ 1000000000000) (hb : b = true → 3 < t.size) :
    Ev (fun k => spec_Stem.j1 k t (t.size : Int) b) (⟨(if (if b = true then (bs t).take ((bs t).length - 1) else bs t) ∈ stopsL.map bs then [] else (if b = true then (bs t).take ((bs t).length - 1) else bs t)).toArray⟩ : ByteArray) := by
  refine ev_succ ?_
  simp only [spec_Stem.j1]
  cases b with
  | true =>
    have := hb rfl
    have e1 : wrap64 ((t.size : Int) - 1) = ((t.size - 1 : Nat) : Int) := by rw [w64' _ (by omega) (by omega)]; omega
    rw [e1, Int.toNat_natCast]
    refine ev_pos rfl (ev_pos (by omega) (ev_pos (by omega) ?_))
    have h := stem_fin (t.extract 0 (t.size - 1))
    rw [bs_extract, List.drop_zero, ← bs_length] at h
    rw [← bs_length]
    simpa using h
  | false => exact ev_neg (by decide) (by simpa using stem_fin t)
theorem u8_int (b c : UInt8) : ((b.toNat : Int) = (c.toNat : Int)) ↔ b = c := ⟨fun h => UInt8.toNat_inj.1 (by omega), fun h => by rw [h]⟩
theorem stem_j0 (t : ByteArray) (hz : t.size ≤ 1000000000000) : Ev (fun k => spec_Stem.j0 k t) (⟨(if stemT (bs t) ∈ stopsL.map bs then [] else stemT (bs t)).toArray⟩ : ByteArray) := by
  have fin : ∀ b : Bool, (b = true → 3 < t.size) → (b = true ↔ (3 < (bs t).length ∧ (bs t).getD ((bs t).length - 1) 0 = 115 ∧ (bs t).getD ((bs t).length - 2) 0 ≠ 115)) →
      Ev (fun k => spec_Stem.j1 k t (t.size : Int) b) (⟨(if stemT (bs t) ∈ stopsL.map bs then [] else stemT (bs t)).toArray⟩ : ByteArray) := by
    intro b hb hiff
    have := stem_j1 t b hz hb
    have e : (if b = true then (bs t).take ((bs t).length - 1) else bs t) = stemT (bs t) := by
      unfold stemT
      by_cases hb' : b = true
      · rw [if_pos hb', if_pos (hiff.1 hb')]
      · rw [if_neg hb', if_neg (fun h => hb' (hiff.2 h))]
    rw [e] at this
    exact this
  have hl := bs_length t
  refine ev_succ ?_
  simp only [spec_Stem.j0]
  refine ev_ite (fun h => ?_) (fun h => ?_)
  · have e1 : wrap64 ((t.size : Int) - 1) = ((t.size - 1 : Nat) : Int) := by rw [w64' _ (by omega) (by omega)]; omega
    have e2 : wrap64 ((t.size : Int) - 2) = ((t.size - 2 : Nat) : Int) := by rw [w64' _ (by omega) (by omega)]; omega
    have g1 : (bs t).getD ((bs t).length - 1) 0 = (bs t)[t.size - 1]'(by omega) := by
      simp only [hl]
      rw [List.getD_eq_getElem?_getD, List.getElem?_eq_getElem (by omega)]; rfl
    have g2 : (bs t).getD ((bs t).length - 2) 0 = (bs t)[t.size - 2]'(by omega) := by
      simp only [hl]
      rw [List.getD_eq_getElem?_getD, List.getElem?_eq_getElem (by omega)]; rfl
    rw [e1, e2, bt_bs t (t.size - 1) (by omega), bt_bs t (t.size - 2) (by omega)]
    rw [g1, g2] at fin
    refine ev_pos (by omega) (ev_pos (by omega) (ev_ite (fun h1 => ?_) (fun h1 => ?_)))
    · refine ev_pos (by omega) (ev_pos (by omega) (fin _ (fun _ => by omega) ?_))
      rw [bne_iff_ne]
      have h1' : (bs t)[t.size - 1]'(by omega) = 115 := (u8_int _ 115).1 h1
      exact ⟨fun h => ⟨by omega, h1', fun e => h ((u8_int _ 115).2 e)⟩, fun h e => h.2.2 ((u8_int _ 115).1 e)⟩
    · refine fin false (fun h => (by cases h)) ⟨fun h => (by cases h), fun h => absurd ((u8_int _ 115).2 h.2.1) h1⟩
  · exact fin false (fun h => (by cases h)) ⟨fun h => (by cases h), fun h' => by omega⟩
theorem spec_stem (s : ByteArray) (hs : s.size ≤ 1000000000000) : Ev (fun k => spec_Stem.f k s) (stemS s) := by
  unfold spec_Stem.f
  have hz := foldS_size s
  refine ev_bind (spec_fold s hs) ?_
  have he : ∀ t : ByteArray, bs t = ((bs s).map lowB).take 12 → t.size ≤ 1000000000000 → Ev (fun k => spec_Stem.j0 k t) (stemS s) := by
    intro t ht htz
    have := stem_j0 t htz
    rw [ht] at this
    exact this
  refine ev_ite (fun h => ev_pos (by omega) (ev_pos (by omega) ?_)) (fun h => ?_)
  · refine he _ ?_ (Nat.le_trans (size_le_extract _ _ _) (by omega))
    rw [bs_extract, bs_foldS]; simp
  · refine he _ ?_ (by omega)
    rw [bs_foldS, List.take_of_length_le]
    rw [List.length_map, bs_length]; omega
theorem stemS_size (s : ByteArray) : (stemS s).size ≤ 12 := by
  rw [← bs_length, bs_stemS, stemC_eq]
  have : (stemT (((bs s).map lowB).take 12)).length ≤ 12 := by
    unfold stemT
    split
    · rw [List.length_take, List.length_take]; omega
    · rw [List.length_take]; omega
  split
  · simp
  · exact this
/-- Is the word looked for? -/
def hit (terms : List ByteArray) (t : ByteArray) : Bool := decide (bs (stemS t) ≠ []) && hasS terms (stemS t)
theorem looked_loop (terms : List ByteArray) (v : ByteArray) (hl : terms.length ≤ 1000000000000) : ∀ (d i : Nat), terms.length - i = d → i ≤ terms.length → Ev (fun k => spec_l9Looked.l0 k terms v (i : Int)) (decide (bs v ≠ []) && hasS (terms.drop i) v) := by
  intro d
  induction d with
  | zero =>
    intro i h1 h2
    refine ev_succ ?_
    simp only [spec_l9Looked.l0]
    refine ev_neg (by omega) (ev_eq ?_)
    rw [List.drop_of_length_le (by omega), hasS_nil]; try simp
  | succ d ih =>
    intro i h1 h2
    have hi : i < terms.length := by omega
    refine ev_succ ?_
    simp only [spec_l9Looked.l0]
    refine ev_pos (by omega) ?_
    rw [w64' _ (by omega) (by omega), List.drop_eq_getElem_cons hi]
    have hn := ih (i + 1) (by omega) (by omega)
    refine ev_ite (fun h => ?_) (fun h => ?_)
    · rw [toList_bs] at h
      refine ev_to hn ?_
      rw [decide_eq_false (by simp [h])]; simp
    · rw [toList_bs] at h
      rw [decide_eq_true h, Bool.true_and] at hn ⊢
      refine ev_pos (by omega) (ev_ite (fun h2 => ev_eq ?_) (fun h2 => ?_))
      · rw [in_loop_eq terms v i hi] at h2
        rw [h2, hasS_same]
      · rw [in_loop_eq terms v i hi] at h2
        rw [hasS_other _ _ _ h2]
        exact hn
theorem spec_looked (t : ByteArray) (terms : List ByteArray) (ht : t.size ≤ 1000000000000) (hl : terms.length ≤ 1000000000000) : Ev (fun k => spec_l9Looked.f k t terms) (hit terms t) := by
  unfold spec_l9Looked.f hit
  refine ev_bind (spec_stem t ht) ?_
  exact looked_loop terms (stemS t) hl terms.length 0 (by omega) (by omega)
theorem impl_stem (t : ByteArray) (ht : t.size ≤ 1000000000000) : impl_Stem.f t = some (stemS t) := by unfold impl_Stem.f; rw [if_pos ht]
theorem impl_bright_eq (t : ByteArray) (a b : Int) (terms : List ByteArray) (ht : t.size ≤ 1000000000000) (hl : terms.length ≤ 1000000000000) : impl_bright.f t a b terms = some (hit terms t) := by
  unfold impl_bright.f hit
  rw [impl_stem t ht]
  simp only [Option.bind_some]
  rw [toList_bs]
  by_cases h : bs (stemS t) = []
  · rw [if_pos h, decide_eq_false (by simp [h])]; simp
  · rw [if_neg h, decide_eq_true h]
    unfold slices_Contains_string_string.f
    rw [if_pos hl]; simp
end Go.Proofs.YtphnkoicfehalaaDoor.DFnMarkAll

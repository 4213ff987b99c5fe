/- A part of the proof: PHintsB. -/
import Derived.Test.YtapdjooadgdbaaaDoorGHintsB
import Derived.Test.YtapdjooadgdbaaaDoorED
import Derived.OpenShut
set_option linter.unusedVariables false
namespace Go.E
open Go

/-! Plain: the functions over a byte. -/

def upperB (b : Int) : Bool := decide (65 ≤ b ∧ b ≤ 90)
def lowerB (b : Int) : Bool := decide (97 ≤ b ∧ b ≤ 122)
def digitB (b : Int) : Bool := decide (48 ≤ b ∧ b ≤ 57)
def alnumB (b : Int) : Bool := upperB b || lowerB b || digitB b
def smallB (b : Int) : Int := if 65 ≤ b ∧ b ≤ 90 then b + 32 else b

theorem two (a b c d : Int) : iteB (leI a b) (some (leI c d)) (some Bool.false) = some (decide (a ≤ b ∧ c ≤ d)) := by
  rw [iteB_leI]; unfold leI; by_cases h : a ≤ b <;> simp [h]

theorem upper_ok (b : Int) : impl_upper b = some (upperB b) := by rw [impl_upper_eq, two]; rfl
theorem lower_ok (b : Int) : impl_lower b = some (lowerB b) := by rw [impl_lower_eq, two]; rfl
theorem digit_ok (b : Int) : impl_digit b = some (digitB b) := by rw [impl_digit_eq, two]; rfl
theorem within_ok (n a b : Int) : impl_within (n, (a, b)) = some (decide (a ≤ n ∧ n ≤ b)) := by rw [impl_within_eq, two]
theorem l1In_ok (n a b : Int) : spec_l1In (n, (a, b)) = some (decide (a ≤ n ∧ n ≤ b)) := by rw [spec_l1In_eq, two]
theorem wordByte_ok (b : Int) : impl_wordByte b = some (alnumB b) := by
  rw [impl_wordByte_eq, upper_ok, lower_ok, digit_ok]
  simp only [bindO_some', alnumB]
  cases upperB b <;> cases lowerB b <;> rfl

/-- A loop that looks whether all is well. -/
theorem loop_all {l : Int → Option Bool} {n : Nat} {p : Nat → Bool} {fin : Bool} (h : ∀ i : Nat, i < n → l i = if p i = true then l ((i + 1 : Nat) : Int) else some false) (h' : l n = some fin) :
    ∀ k i : Nat, i + k = n → l i = some (((List.range' i k).all p) && fin)
  | 0, i, e => by simp at e; subst e; simpa using h'
  | k + 1, i, e => by
    rw [h i (by omega), List.range'_succ, List.all_cons]
    cases hp : p i with
    | true => rw [if_pos rfl, loop_all h h' k (i + 1) (by omega)]; simp
    | false => simp

def byteAt (s : ByteArray) (i : Nat) : Int := ((s.data[i]?).map fun b => (b.toNat : Int)).getD 0

theorem atS_nat (s : ByteArray) (i : Nat) (h : i < s.size) : atS s i = some (byteAt s i) := by
  have h' : i < s.data.size := h
  unfold atS byteAt
  rw [if_pos (by omega)]
  simp [Array.getElem?_eq_getElem h']

/-- A text that is no greater than memory. -/
def Fits (s : ByteArray) : Prop := s.size ≤ 1048576

theorem isWord_ok (s : ByteArray) (hs : Fits s) : impl_isWord s = some ((List.range' 0 s.size).all (fun i => alnumB (byteAt s i)) && !decide (s = bs [])) := by
  rw [impl_isWord_eq]
  have := loop_all (l := fun i => impl_isWord.l2 s (lenS s) i) (n := s.size) (p := fun i => alnumB (byteAt s i)) (fin := !decide (s = bs [])) (fun i hi => ?_) ?_ s.size 0 (by omega)
  · exact this
  · rw [impl_isWord.l2_eq, iteB_ltI, lenS_eq, if_pos (by omega), atS_nat s i hi, bindO_some', wordByte_ok, bindO_some', iteB_notB]
    unfold Fits at hs
    rw [addI64 _ _ (by omega) (by omega)]
    unfold iteB
    rfl
  · rw [impl_isWord.l2_eq, iteB_ltI, lenS_eq, if_neg (by omega), impl_isWord.j7_eq]; rfl
end Go.E

set_option linter.unusedVariables false
namespace Go.E
open Go

/-! Plain: strings.Split at spaces. -/

def toB (l : List UInt8) : ByteArray := ⟨l.toArray⟩
def toL (s : ByteArray) : List UInt8 := s.data.toList
theorem toB_toL (s : ByteArray) : toB (toL s) = s := by cases s; rfl
theorem toL_toB (l : List UInt8) : toL (toB l) = l := rfl
theorem toL_len (s : ByteArray) : (toL s).length = s.size := rfl

def splitL : List UInt8 → List (List UInt8)
  | [] => [[]]
  | b :: r => if b = 32 then [] :: splitL r else match splitL r with
    | w :: ws => (b :: w) :: ws
    | [] => [[b]]

theorem splitL_none {u : List UInt8} (h : (32 : UInt8) ∉ u) : splitL u = [u] := by
  induction u with
  | nil => rfl
  | cons b r ih =>
    simp only [List.mem_cons, not_or] at h
    simp only [splitL]
    rw [if_neg (fun e => h.1 e.symm), ih h.2]

theorem splitL_app {u r : List UInt8} (h : (32 : UInt8) ∉ u) : splitL (u ++ 32 :: r) = u :: splitL r := by
  induction u with
  | nil => simp [splitL]
  | cons b u ih =>
    simp only [List.mem_cons, not_or] at h
    rw [List.cons_append]
    simp only [splitL]
    rw [if_neg (fun e => h.1 e.symm), ih h.2]

theorem index_cases (c : UInt8) : ∀ l : List UInt8, (c ∉ l ∧ Lib.indexByte l c = -1) ∨ ∃ u r, l = u ++ c :: r ∧ c ∉ u ∧ Lib.indexByte l c = (u.length : Nat)
  | [] => .inl ⟨by simp, rfl⟩
  | b :: l => by
    by_cases hb : b = c
    · subst hb
      exact .inr ⟨[], l, rfl, by simp, by simp [Lib.indexByte]⟩
    · rcases index_cases c l with ⟨h1, h2⟩ | ⟨u, r, rfl, h1, h2⟩
      · exact .inl ⟨by simp [h1, Ne.symm hb], by simp [Lib.indexByte, hb, h2]⟩
      · refine .inr ⟨b :: u, r, rfl, by simp [h1, Ne.symm hb], ?_⟩
        have : Lib.indexByte (u ++ c :: r) c ≠ -1 := by rw [h2]; omega
        simp only [Lib.indexByte]
        rw [if_neg (by simpa using hb), if_neg (by simpa using this), h2]
        simp

theorem cutS_toL (s : ByteArray) (i j : Nat) : toL (cutS s (i : Int) (j : Int)) = ((toL s).drop i).take (j - i) := by
  unfold cutS toL
  simp [ByteArray.data_extract, Array.toList_extract]

theorem index_ok (s : ByteArray) : strings_Index (s, bs [32]) = if (bs [32] : ByteArray) = s then some 0 else some (Lib.indexByte (toL s) 32) := by
  rw [strings_Index_eq, internal_stringslite_Index_eq]
  simp only [iteB_eqI, iteB_eqS]
  rw [if_neg (by decide)]
  by_cases h : (bs [32] : ByteArray) = s
  · rw [if_pos h, if_pos h]; rfl
  · rw [if_neg h, if_neg h, if_pos (by decide)]
    have : atS (bs [32]) 0 = some 32 := by decide
    rw [this, bindO_some', internal_stringslite_IndexByte_eq]
    rfl

theorem index_ok' (s : ByteArray) : strings_Index (s, bs [32]) = some (Lib.indexByte (toL s) 32) := by
  rw [index_ok]
  split
  · rename_i h; rw [← h]; rfl
  · rfl
end Go.E

set_option linter.unusedVariables false
namespace Go.E
open Go

/-- The loop of genSplit. -/
theorem split_loop : ∀ (k : Nat) (s : ByteArray) (i c : Nat) (a : List ByteArray), i + k = c → (toL s).count 32 = k → a.length = c + 1 → c < 1048578 → s.size ≤ 1048576 →
    strings_genSplit.l11 s (bs [32]) 0 (c : Int) (i : Int) a = some (a.take i ++ (splitL (toL s)).map toB)
  | 0, s, i, c, a, hi, hc, ha, hlt, hs => by
    have e : i = c := by omega
    subst e
    have hn : (32 : UInt8) ∉ toL s := by rw [← List.count_eq_zero]; exact hc
    rw [strings_genSplit.l11_eq, iteB_ltI, if_neg (by omega), strings_genSplit.j17_eq, iteB_leI, if_pos (by omega), iteB_ltI, lenL_eq, if_pos (by omega), atL_nat, List.getElem?_eq_getElem (by omega), bindO_some', addI64 _ _ (by omega) (by omega), iteB_okCut, lenL_eq]
    have hl : (setL a (i : Int) s).length = i + 1 := by simp [setL, ha]
    rw [if_pos ⟨by omega, by omega, by omega⟩, splitL_none hn]
    simp only [cutL, setL]
    congr 1
    rw [show ((i : Int) + 1).toNat = i + 1 by omega, show (0 : Int).toNat = 0 by rfl, List.drop_zero]
    apply List.ext_getElem?
    intro j
    simp only [Int.toNat_natCast, List.map_cons, List.map_nil, toB_toL]
    by_cases hj : j < i
    · rw [List.getElem?_take, if_pos (by omega), List.getElem?_set, if_neg (by omega), List.getElem?_append_left (by simp; omega), List.getElem?_take, if_pos hj]
    · by_cases hj' : j = i
      · subst hj'
        rw [List.getElem?_take, if_pos (by omega), List.getElem?_set, if_pos rfl, if_pos (by omega), List.getElem?_append_right (by simp; omega)]
        simp [show min j a.length = j by omega]
      · rw [List.getElem?_take, if_neg (by omega), List.getElem?_eq_none]
        simp; omega
  | k + 1, s, i, c, a, hi, hc, ha, hlt, hs => by
    rcases index_cases 32 (toL s) with ⟨h1, _⟩ | ⟨u, r, h1, h2, h3⟩
    · rw [List.count_eq_zero.2 h1] at hc; cases hc
    · have hsz : s.size = u.length + (r.length + 1) := by rw [← toL_len, h1]; simp
      rw [strings_genSplit.l11_eq, iteB_ltI, if_pos (by omega), index_ok', bindO_some', h3, iteB_ltI, if_neg (by omega), iteB_okCut, lenS_eq, addI64 _ _ (by omega) (by omega), if_pos ⟨by omega, by omega, by omega⟩,
        iteB_leI, if_pos (by omega), iteB_ltI, lenL_eq, if_pos (by omega), atL_nat, List.getElem?_eq_getElem (by omega), bindO_some', iteB_okCut]
      have hb : lenS (bs [32]) = 1 := rfl
      rw [hb, addI64 _ _ (by omega) (by omega), if_pos ⟨by omega, by omega, by omega⟩, addI64 _ _ (by omega) (by omega)]
      have e1 : toL (cutS s ((u.length : Int) + 1) (s.size : Int)) = r := by
        rw [show ((u.length : Int) + 1) = ((u.length + 1 : Nat) : Int) by omega, cutS_toL, h1, hsz]
        have ed : (u ++ 32 :: r).drop (u.length + 1) = r := by
          rw [show u.length + 1 = (u ++ [(32 : UInt8)]).length by simp, show u ++ 32 :: r = (u ++ [(32 : UInt8)]) ++ r by simp, List.drop_left]
        rw [ed]
        exact List.take_of_length_le (by omega)
      have e2 : cutS s 0 ((u.length : Int) + 0) = toB u := by
        have : toL (cutS s ((0 : Nat) : Int) ((u.length : Nat) : Int)) = u := by rw [cutS_toL, h1]; simp
        rw [← toB_toL (cutS s 0 ((u.length : Int) + 0))]
        congr 1
      have hcnt : (toL (cutS s ((u.length : Int) + 1) (s.size : Int))).count 32 = k := by
        rw [e1]; rw [h1, List.count_append, List.count_eq_zero.2 h2] at hc; simp at hc; omega
      rw [show ((i : Int) + 1) = ((i + 1 : Nat) : Int) by omega, split_loop k _ (i + 1) c _ (by omega) hcnt (by simp [setL, ha]) hlt (by rw [← toL_len, e1]; omega), e1, e2, h1, splitL_app h2]
      congr 1
      simp only [setL, Int.toNat_natCast, List.map_cons]
      rw [List.take_set, List.take_add_one, List.getElem?_eq_getElem (by omega)]
      simp only [Option.toList_some]
      rw [List.set_append_right _ _ (by simp; omega)]
      simp [show min i a.length = i by omega]
end Go.E

set_option linter.unusedVariables false
namespace Go.E
open Go

theorem split_ok (s : ByteArray) (hs : s.size ≤ 1048576) : strings_Split (s, bs [32]) = some ((splitL (toL s)).map toB) := by
  have hcnt : (toL s).count 32 ≤ s.size := by rw [← toL_len]; exact List.count_le_length
  rw [strings_Split_eq, strings_genSplit_eq, iteB_eqI, if_neg (by decide), iteB_eqS, if_neg (by decide), iteB_ltI, if_pos (by decide), strings_Count_eq, iteB_eqI, if_neg (by decide), iteB_eqI, if_pos (by decide)]
  have h0 : atS (bs [32]) 0 = some 32 := by decide
  have h1 : internal_bytealg_CountString (s, 32) = some (((toL s).count 32 : Nat) : Int) := rfl
  rw [h0, bindO_some', h1, bindO_some', bindO_some', addI64 _ _ (by omega) (by omega), strings_genSplit.j7_eq, iteB_eqI, if_pos rfl, iteB_roomN]
  have hm : minI ((((toL s).count 32 : Nat) : Int) + 1) (addI .i64 (lenS s) 1) = (((toL s).count 32 + 1 : Nat) : Int) := by
    rw [lenS_eq, addI64 _ _ (by omega) (by omega)]; unfold minI; rw [if_neg (by omega)]; omega
  rw [hm, if_pos ⟨by omega, by unfold roomMax; omega⟩, subI64 _ _ (by omega) (by omega)]
  have := split_loop ((toL s).count 32) s 0 ((toL s).count 32) (repL (((toL s).count 32 + 1 : Nat) : Int) (bs [])) (by omega) rfl (by simp [repL]) (by omega) hs
  rw [show (((toL s).count 32 + 1 : Nat) : Int) - 1 = (((toL s).count 32 : Nat) : Int) by omega]
  rw [show ((0 : Nat) : Int) = 0 from rfl] at this
  rw [this]; rfl
end Go.E

set_option linter.unusedVariables false
namespace Go.E
open Go

def alB (b : UInt8) : Bool := alnumB (b.toNat : Int)

theorem range_all (s : ByteArray) (q : Int → Bool) : (List.range' 0 s.size).all (fun i => q (byteAt s i)) = (toL s).all (fun b => q (b.toNat : Int)) := by
  rw [Bool.eq_iff_iff, List.all_eq_true, List.all_eq_true]
  constructor
  · intro h b hb
    obtain ⟨i, hi, rfl⟩ := List.getElem_of_mem hb
    have hi' : i < s.size := hi
    have := h i (by simp [List.mem_range']; omega)
    unfold byteAt at this
    have e : s.data[i]? = some (toL s)[i] := by
      unfold toL; rw [Array.getElem?_eq_getElem hi']; simp
    rw [e] at this; exact this
  · intro h i hi
    have hi' : i < s.size := by simp [List.mem_range'] at hi; omega
    have e : s.data[i]? = some ((toL s)[i]'hi') := by
      unfold toL; rw [Array.getElem?_eq_getElem hi']; simp
    unfold byteAt
    rw [e]
    exact h _ (List.getElem_mem _)

def wordL (w : List UInt8) : Bool := w.all alB && !w.isEmpty

theorem isWord_L (s : ByteArray) (hs : s.size ≤ 1048576) : impl_isWord s = some (wordL (toL s)) := by
  rw [isWord_ok s hs, range_all]
  congr 1
  unfold wordL
  congr 1
  rw [Bool.eq_iff_iff]
  simp only [Bool.not_eq_true', decide_eq_false_iff_not]
  constructor
  · intro h
    cases hl : toL s with
    | nil => exact absurd (by rw [← toB_toL s, hl]; rfl) h
    | cons b r => rfl
  · rintro h rfl
    cases h

theorem splitL_len : ∀ (t : List UInt8) w, w ∈ splitL t → w.length ≤ t.length
  | [], w, h => by simp [splitL] at h; subst h; simp
  | b :: r, w, h => by
    simp only [splitL] at h
    split at h
    · rcases List.mem_cons.1 h with rfl | h
      · simp
      · have := splitL_len r w h; simp; omega
    · split at h
      · rename_i w' ws hw
        rcases List.mem_cons.1 h with rfl | h
        · have := splitL_len r w' (by rw [hw]; simp); simp; omega
        · have := splitL_len r w (by rw [hw]; simp [h]); simp; omega
      · simp at h; subst h; simp

/-- All words of a text are words. -/
theorem wordsOk_ok (s : ByteArray) (hs : s.size ≤ 1048576) (a b : Int) : impl_wordsOk (s, (a, b)) =
    some ((splitL (toL s)).all wordL && (decide (a ≤ ((splitL (toL s)).length : Int) ∧ ((splitL (toL s)).length : Int) ≤ b) && decide ((s.size : Int) ≤ 60))) := by
  rw [impl_wordsOk_eq, split_ok s hs, bindO_some']
  have hlen : (splitL (toL s)).length ≤ s.size + 1 := by
    have : ∀ t : List UInt8, (splitL t).length ≤ t.length + 1 := by
      intro t
      induction t with
      | nil => simp [splitL]
      | cons b r ih =>
        simp only [splitL]
        split
        · simp; omega
        · split
          · rename_i hw; rw [hw] at ih; simp at ih ⊢; omega
          · simp
    rw [← toL_len]; exact this _
  have := loop_all (l := fun i => impl_wordsOk.l3 s a b ((splitL (toL s)).map toB) ((splitL (toL s)).map toB) (lenL ((splitL (toL s)).map toB)) i) (n := (splitL (toL s)).length)
    (p := fun i => ((splitL (toL s))[i]?).any wordL) (fin := decide (a ≤ ((splitL (toL s)).length : Int) ∧ ((splitL (toL s)).length : Int) ≤ b) && decide ((s.size : Int) ≤ 60)) (fun i hi => ?_) ?_ (splitL (toL s)).length 0 (by omega)
  · refine this.trans ?_
    congr 2
    rw [Bool.eq_iff_iff, List.all_eq_true, List.all_eq_true]
    constructor
    · intro h w hw
      obtain ⟨i, hi, rfl⟩ := List.getElem_of_mem hw
      have := h i (by simp [List.mem_range']; omega)
      rw [List.getElem?_eq_getElem hi] at this; exact this
    · intro h i hi
      have hi' : i < (splitL (toL s)).length := by simp [List.mem_range'] at hi; omega
      rw [List.getElem?_eq_getElem hi']; exact h _ (List.getElem_mem _)
  · have hi' : i < ((splitL (toL s)).map toB).length := by simpa using hi
    rw [impl_wordsOk.l3_eq, iteB_ltI, lenL_eq, if_pos (by omega), atL_nat, List.getElem?_eq_getElem hi', bindO_some', List.getElem_map]
    have hw := splitL_len (toL s) _ (List.getElem_mem hi)
    rw [isWord_L _ (by rw [← toL_len, toL_toB]; rw [toL_len] at hw; omega), bindO_some', iteB_notB, addI64 (i : Int) 1 (by omega) (by omega), toL_toB, List.getElem?_eq_getElem hi]
    unfold iteB
    rfl
  · rw [impl_wordsOk.l3_eq, iteB_ltI, lenL_eq, if_neg (by simp), impl_wordsOk.j8_eq, within_ok, bindO_some', lenL_eq, lenS_eq]
    simp only [List.length_map]
    unfold iteB leI
    by_cases h : a ≤ ((splitL (toL s)).length : Int) ∧ ((splitL (toL s)).length : Int) ≤ b <;> simp [h]
end Go.E

set_option linter.unusedVariables false
namespace Go.E
open Go

/-! Plain: words of a text, by lists. -/

theorem ne_isEmpty {l : List UInt8} (h : l ≠ []) : (!l.isEmpty) = true := by
  cases l with
  | nil => exact absurd rfl h
  | cons _ _ => rfl

abbrev W3 := List UInt8 × Nat × Nat

/-- A word that ends, ahead of others. -/
def fl (j : Nat) (c : List UInt8) (ws : List W3) : List W3 := if c = [] then ws else (c, j, j + c.length) :: ws

/-- The word that a text begins with, and the words behind it. -/
def wl : Nat → List UInt8 → List UInt8 × List W3
  | _, [] => ([], [])
  | i, b :: r => if alB b = true then (b :: (wl (i + 1) r).1, (wl (i + 1) r).2) else ([], fl (i + 1) (wl (i + 1) r).1 (wl (i + 1) r).2)

def wordsP (i : Nat) (t : List UInt8) : List W3 := fl i (wl i t).1 (wl i t).2

theorem wl_eq : ∀ (t : List UInt8) (i : Nat), wl i t = (t.takeWhile alB, wordsP (i + (t.takeWhile alB).length) (t.drop (t.takeWhile alB).length))
  | [], i => by simp [wl, wordsP, fl]
  | b :: r, i => by
    by_cases hb : alB b = true
    · rw [wl, if_pos hb, wl_eq r (i + 1)]
      simp only [List.takeWhile_cons, hb, if_true, List.length_cons, List.drop_succ_cons]
      rw [show i + ((r.takeWhile alB).length + 1) = i + 1 + (r.takeWhile alB).length by omega]
    · have e : (b :: r).takeWhile alB = [] := by simp [hb]
      rw [e]
      simp only [List.length_nil, Nat.add_zero, List.drop_zero]
      rw [wl, if_neg hb]
      congr 1
      rw [wordsP, wl, if_neg hb]
      simp [fl]

theorem wordsP_skip {b : UInt8} (hb : alB b = false) (r : List UInt8) (i : Nat) : wordsP i (b :: r) = wordsP (i + 1) r := by
  simp [wordsP, wl, hb, fl]

theorem wordsP_take {t : List UInt8} (h : t.takeWhile alB ≠ []) (i : Nat) : wordsP i t = (t.takeWhile alB, i, i + (t.takeWhile alB).length) :: wordsP (i + (t.takeWhile alB).length) (t.drop (t.takeWhile alB).length) := by
  rw [wordsP, wl_eq]
  simp only
  rw [fl, if_neg h]

def joinL : List (List UInt8) → List UInt8
  | [] => []
  | [w] => w
  | w :: v :: r => w ++ 32 :: joinL (v :: r)

theorem join_split : ∀ t : List UInt8, joinL (splitL t) = t
  | [] => rfl
  | b :: r => by
    have ih := join_split r
    simp only [splitL]
    split
    · rename_i h; subst h
      cases hs : splitL r with
      | nil => cases r <;> simp [splitL] at hs <;> (try split at hs) <;> (try split at hs) <;> simp at hs
      | cons w ws => rw [hs] at ih; simp only [joinL, ih, List.nil_append]
    · split
      · rename_i w ws hs
        rw [hs] at ih
        cases ws with
        | nil => simp only [joinL] at ih ⊢; rw [ih]
        | cons v vs => simp only [joinL] at ih ⊢; rw [List.cons_append, ih]
      · rename_i hs
        cases r <;> simp [splitL] at hs <;> (try split at hs) <;> (try split at hs) <;> simp at hs

theorem splitL_ne (t : List UInt8) : splitL t ≠ [] := by
  cases t with
  | nil => simp [splitL]
  | cons b r => simp only [splitL]; split <;> (try split) <;> simp

theorem split_join : ∀ ws : List (List UInt8), ws ≠ [] → (∀ w ∈ ws, (32 : UInt8) ∉ w) → splitL (joinL ws) = ws
  | [], h, _ => absurd rfl h
  | [w], _, h => splitL_none (h w (by simp))
  | w :: v :: r, _, h => by
    rw [joinL, splitL_app (h w (by simp)), split_join (v :: r) (by simp) (fun x hx => h x (by simp [hx]))]

theorem al_ne {b : UInt8} (h : alB b = true) : b ≠ 32 := by rintro rfl; revert h; decide

theorem split_words : ∀ (t : List UInt8) (i : Nat) (w : List UInt8) (ws : List (List UInt8)), splitL t = w :: ws → (∀ b ∈ w, alB b = true) → (∀ v ∈ ws, wordL v = true) → (wl i t).1 = w ∧ (wl i t).2.map (·.1) = ws
  | [], i, w, ws, h, h1, h2 => by
    simp [splitL] at h; obtain ⟨rfl, rfl⟩ := h; simp [wl]
  | b :: r, i, w, ws, h, h1, h2 => by
    simp only [splitL] at h
    split at h
    · rename_i hb; subst hb
      obtain ⟨rfl, rfl⟩ := List.cons.inj h
      cases hs : splitL r with
      | nil => exact absurd hs (splitL_ne r)
      | cons v vs =>
        rw [hs] at h2
        have hv := h2 v (by simp)
        unfold wordL at hv
        rw [Bool.and_eq_true, List.all_eq_true] at hv
        obtain ⟨k1, k2⟩ := split_words r (i + 1) v vs hs hv.1 (fun x hx => h2 x (by simp [hx]))
        have : alB 32 = false := by decide
        rw [wl, if_neg (by rw [this]; simp)]
        refine ⟨rfl, ?_⟩
        have hne : v ≠ [] := by rintro rfl; simp at hv
        simp only [fl, k1, if_neg hne, List.map_cons, k2]
    · split at h
      · rename_i v vs hs
        obtain ⟨rfl, rfl⟩ := List.cons.inj h
        obtain ⟨k1, k2⟩ := split_words r (i + 1) v vs hs (fun x hx => h1 x (by simp [hx])) h2
        rw [wl, if_pos (h1 b (by simp))]
        exact ⟨by simp [k1], k2⟩
      · rename_i hs; exact absurd hs (splitL_ne r)

theorem wl_al : ∀ (t : List UInt8) (i : Nat), (∀ b ∈ (wl i t).1, alB b = true) ∧ ∀ w ∈ (wl i t).2, wordL w.1 = true
  | [], i => by simp [wl]
  | b :: r, i => by
    obtain ⟨h1, h2⟩ := wl_al r (i + 1)
    by_cases hb : alB b = true
    · rw [wl, if_pos hb]
      refine ⟨fun c hc => ?_, h2⟩
      rcases List.mem_cons.1 hc with rfl | hc
      · exact hb
      · exact h1 c hc
    · rw [wl, if_neg hb]
      refine ⟨fun c hc => (List.not_mem_nil hc).elim, fun w hw => ?_⟩
      unfold fl at hw
      split at hw
      · exact h2 w hw
      · rename_i hne
        rcases List.mem_cons.1 hw with rfl | hw
        · unfold wordL; rw [Bool.and_eq_true, List.all_eq_true]
          exact ⟨h1, ne_isEmpty hne⟩
        · exact h2 w hw

theorem wordsP_word (i : Nat) (t : List UInt8) : ∀ w ∈ wordsP i t, wordL w.1 = true := fun w hw => by
  obtain ⟨h1, h2⟩ := wl_al t i
  unfold wordsP fl at hw
  split at hw
  · exact h2 w hw
  · rename_i hne
    rcases List.mem_cons.1 hw with rfl | hw
    · unfold wordL; rw [Bool.and_eq_true, List.all_eq_true]
      exact ⟨h1, ne_isEmpty hne⟩
    · exact h2 w hw

theorem word_no {w : List UInt8} (h : wordL w = true) : (32 : UInt8) ∉ w := fun hm => by
  unfold wordL at h; rw [Bool.and_eq_true, List.all_eq_true] at h
  exact al_ne (h.1 _ hm) rfl

/-- A text of words alone, told in two ways. -/
theorem words_iff (t : List UInt8) : ((splitL t).all wordL = true) ↔ ((wordsP 0 t).map (·.1) ≠ [] ∧ joinL ((wordsP 0 t).map (·.1)) = t) := by
  constructor
  · intro h
    rw [List.all_eq_true] at h
    cases hs : splitL t with
    | nil => exact absurd hs (splitL_ne t)
    | cons w ws =>
      rw [hs] at h
      have hw := h w (by simp)
      have hw' := hw
      unfold wordL at hw; rw [Bool.and_eq_true, List.all_eq_true] at hw
      obtain ⟨k1, k2⟩ := split_words t 0 w ws hs hw.1 (fun v hv => h v (by simp [hv]))
      have hne : w ≠ [] := by rintro rfl; simp at hw
      have e : (wordsP 0 t).map (·.1) = w :: ws := by simp only [wordsP, fl, k1, if_neg hne, List.map_cons, k2]
      rw [e]
      exact ⟨by simp, by rw [← hs, join_split]⟩
  · rintro ⟨h1, h2⟩
    have hw : ∀ w ∈ (wordsP 0 t).map (·.1), wordL w = true := fun w hw => by
      obtain ⟨x, hx, rfl⟩ := List.mem_map.1 hw
      exact wordsP_word 0 t x hx
    have := split_join _ h1 (fun w hm => word_no (hw w hm))
    rw [h2] at this
    rw [this, List.all_eq_true]; exact hw

def seenB (b : UInt8) : Bool := decide (32 ≤ (b.toNat : Int) ∧ (b.toNat : Int) ≤ 126)

theorem al_seen {b : UInt8} (h : alB b = true) : seenB b = true := by
  unfold alB alnumB upperB lowerB digitB at h; unfold seenB
  simp only [Bool.or_eq_true, decide_eq_true_eq] at h ⊢
  omega

theorem join_seen : ∀ ws : List (List UInt8), (∀ w ∈ ws, wordL w = true) → (joinL ws).all seenB = true
  | [], _ => rfl
  | [w], h => by
    have := h w (by simp); unfold wordL at this; rw [Bool.and_eq_true, List.all_eq_true] at this
    rw [joinL, List.all_eq_true]; exact fun b hb => al_seen (this.1 b hb)
  | w :: v :: r, h => by
    have := h w (by simp); unfold wordL at this; rw [Bool.and_eq_true, List.all_eq_true] at this
    rw [joinL, List.all_append, List.all_cons, join_seen (v :: r) (fun x hx => h x (by simp [hx]))]
    have e : w.all seenB = true := by rw [List.all_eq_true]; exact fun b hb => al_seen (this.1 b hb)
    rw [e]; decide

theorem words_seen (t : List UInt8) (h : (splitL t).all wordL = true) : t.all seenB = true := by
  rw [List.all_eq_true] at h
  have := join_seen (splitL t) h
  rwa [join_split] at this

/-- How long the words are, each with a byte behind it. -/
def lenW : List W3 → Nat
  | [] => 0
  | w :: r => w.1.length + 1 + lenW r

theorem wl_len : ∀ (t : List UInt8) (i : Nat), (wl i t).1.length + lenW (wl i t).2 ≤ t.length
  | [], i => by simp [wl, lenW]
  | b :: r, i => by
    have := wl_len r (i + 1)
    rw [wl]
    split
    · simp only [List.length_cons]; omega
    · simp only [List.length_nil, fl, List.length_cons]
      split
      · omega
      · simp only [lenW]; omega

theorem wordsP_len (t : List UInt8) (i : Nat) : lenW (wordsP i t) ≤ t.length + 1 := by
  have := wl_len t i
  unfold wordsP fl
  split
  · omega
  · simp only [lenW]; omega

theorem lenW_ge : ∀ ws : List W3, ws.length ≤ lenW ws
  | [] => Nat.le_refl _
  | w :: r => by have := lenW_ge r; simp only [lenW, List.length_cons]; omega

theorem split_many (t : List UInt8) (h : (splitL t).all wordL = true) : 2 * (splitL t).length ≤ t.length + 1 := by
  have : ∀ ws : List (List UInt8), (∀ w ∈ ws, wordL w = true) → 2 * ws.length ≤ (joinL ws).length + 1 := by
    intro ws
    induction ws with
    | nil => intro _; simp [joinL]
    | cons w r ih =>
      intro h
      have hw := h w (by simp)
      have : 1 ≤ w.length := by
        unfold wordL at hw; rw [Bool.and_eq_true] at hw
        cases w with
        | nil => simp at hw
        | cons _ _ => simp
      cases r with
      | nil => simp [joinL]; omega
      | cons v r =>
        have := ih (fun x hx => h x (by simp [hx]))
        simp only [joinL, List.length_append, List.length_cons] at this ⊢
        omega
  rw [List.all_eq_true] at h
  have h2 := this _ h
  rwa [join_split] at h2
end Go.E

set_option linter.unusedVariables false
namespace Go.E
open Go

/-! Plain: the reference's functions over a text. -/

theorem small_ok (b : Int) (h0 : 0 ≤ b) (h1 : b ≤ 255) : spec_l1Small b = some (smallB b) := by
  rw [spec_l1Small_eq]
  simp only [iteB_leI]
  unfold smallB
  by_cases h : 65 ≤ b ∧ b ≤ 90
  · rw [if_pos h.1, if_pos h.2, if_pos h]
    congr 1
    exact IntWalk.u8_in _ ⟨by omega, by omega⟩
  · rw [if_neg h]
    by_cases h' : 65 ≤ b
    · rw [if_pos h', if_neg (by omega)]
    · rw [if_neg h']

theorem part_ok (b : Int) (h0 : 0 ≤ b) (h1 : b ≤ 255) : spec_l1Part b = some (alnumB b) := by
  rw [spec_l1Part_eq, small_ok b h0 h1, bindO_some']
  simp only [iteB_leI]
  have : alnumB b = decide ((97 ≤ smallB b ∧ smallB b ≤ 122) ∨ (48 ≤ smallB b ∧ smallB b ≤ 57)) := by
    unfold alnumB upperB lowerB digitB smallB
    rw [← Bool.decide_or, ← Bool.decide_or]
    apply decide_eq_decide.2
    split <;> omega
  rw [this]
  unfold leI
  by_cases a1 : 97 ≤ smallB b <;> by_cases a2 : smallB b ≤ 122 <;> by_cases a3 : 48 ≤ smallB b <;> by_cases a4 : smallB b ≤ 57 <;> simp [a1, a2, a3, a4] <;> omega

theorem atS_toL {s : ByteArray} {i : Nat} {b : UInt8} (h : (toL s)[i]? = some b) : atS s i = some ((b.toNat : Int)) := by
  have hi : i < s.size := (List.getElem?_eq_some_iff.1 h).1
  rw [atS_nat s i hi]
  unfold byteAt
  unfold toL at h
  rw [Array.getElem?_toList] at h
  rw [h]; rfl

theorem byte_le (b : UInt8) : (0 : Int) ≤ (b.toNat : Int) ∧ (b.toNat : Int) ≤ 255 := ⟨by omega, by have := b.toNat_lt; omega⟩

theorem drop_at {α : Type} {l : List α} {i : Nat} (h : i < l.length) : ∃ b, l[i]? = some b ∧ l.drop i = b :: l.drop (i + 1) :=
  ⟨l[i], List.getElem?_eq_getElem h, List.drop_eq_getElem_cons h⟩

/-- The inner loop of Words. -/
theorem words_l5 (s : ByteArray) (hs : s.size ≤ 1048576) (i : Nat) (out : List (ByteArray × (Int × Int))) : ∀ (n k : Nat), k + n = s.size → spec_Words.l5 s i k out = spec_Words.j7 s i ((k + (((toL s).drop k).takeWhile alB).length : Nat) : Int) out
  | 0, k, e => by
    rw [spec_Words.l5_eq, iteB_ltI, lenS_eq, if_neg (by omega)]
    rw [List.drop_eq_nil_of_le (by rw [toL_len]; omega)]; simp
  | n + 1, k, e => by
    obtain ⟨b, hb, hd⟩ := drop_at (l := toL s) (i := k) (by rw [toL_len]; omega)
    rw [spec_Words.l5_eq, iteB_ltI, lenS_eq, if_pos (by omega), atS_toL hb, bindO_some', part_ok _ (byte_le b).1 (byte_le b).2, bindO_some']
    have e1 : alnumB (b.toNat : Int) = alB b := rfl
    rw [e1, hd]
    cases ha : alB b with
    | true =>
      rw [iteB_t, addI64 (k : Int) 1 (by omega) (by omega)]
      have := words_l5 s hs i out n (k + 1) (by omega)
      rw [show (k : Int) + 1 = ((k + 1 : Nat) : Int) by omega, this]
      simp only [List.takeWhile_cons, ha, if_true, List.length_cons]
      congr 2; omega
    | false =>
      rw [iteB_f]
      simp [ha]

def wOf (w : W3) : ByteArray × (Int × Int) := (toB w.1, ((w.2.1 : Int), (w.2.2 : Int)))

theorem roomMax_eq : roomMax = 274877906944 := rfl

theorem words_l3 (s : ByteArray) (hs : s.size ≤ 1048576) : ∀ (n i : Nat) (out : List (ByteArray × (Int × Int))), s.size - i ≤ n → i ≤ s.size → out.length ≤ i → spec_Words.l3 s i out = some (out ++ (wordsP i ((toL s).drop i)).map wOf)
  | n, i, out, hn, hi, ho => by
    by_cases hlt : i < s.size
    · obtain ⟨b, hb, hd⟩ := drop_at (l := toL s) (i := i) (by rw [toL_len]; omega)
      rw [spec_Words.l3_eq, iteB_ltI, lenS_eq, if_pos (by omega), words_l5 s hs i out (s.size - i) i (by omega), spec_Words.j7_eq, iteB_eqI]
      have htl : (((toL s).drop i).takeWhile alB).length ≤ s.size - i := by
        have := (List.takeWhile_prefix alB (l := (toL s).drop i)).length_le
        rw [List.length_drop, toL_len] at this; exact this
      cases n with
      | zero => omega
      | succ n =>
      by_cases h0 : ((toL s).drop i).takeWhile alB = []
      · rw [h0, if_pos (by simp), addI64 (i : Int) 1 (by omega) (by omega), show (i : Int) + 1 = ((i + 1 : Nat) : Int) by omega, words_l3 s hs n (i + 1) out (by omega) (by omega) (by omega)]
        have : alB b = false := by
          rw [hd] at h0
          cases ha : alB b with
          | false => rfl
          | true => simp [ha] at h0
        rw [hd, wordsP_skip this]
      · have hpos : 0 < (((toL s).drop i).takeWhile alB).length := List.length_pos_iff.2 h0
        rw [if_neg (by omega), lenS_eq, iteB_okCut, if_pos (by omega), iteB_room, if_pos (by simp; rw [roomMax_eq]; omega)]
        unfold appL
        rw [words_l3 s hs n (i + (((toL s).drop i).takeWhile alB).length) _ (by omega) (by omega) (by simp <;> omega)]
        rw [wordsP_take h0 i, List.map_cons, List.append_assoc, List.drop_drop]
        congr 2
        simp only [List.singleton_append, List.cons.injEq, and_true]
        unfold wOf
        congr 1
        rw [← toB_toL (cutS s _ _), cutS_toL]
        congr 1
        rw [Nat.add_sub_cancel_left]
        exact (List.prefix_iff_eq_take.1 (List.takeWhile_prefix alB)).symm
    · have : i = s.size := by omega
      rw [spec_Words.l3_eq, iteB_ltI, lenS_eq, if_neg (by omega), spec_Words.j11_eq, List.drop_eq_nil_of_le (by rw [toL_len]; omega)]
      simp [wordsP, wl, fl]

theorem sWords_ok (s : ByteArray) (hs : s.size ≤ 1048576) : spec_Words s = some ((wordsP 0 (toL s)).map wOf) := by
  rw [spec_Words_eq]
  have := words_l3 s hs s.size 0 [] (by omega) (by omega) (Nat.zero_le _)
  simpa using this

theorem toL_cat (a b : ByteArray) : toL (catS a b) = toL a ++ toL b := by
  unfold toL catS; simp

theorem toL_inj {a b : ByteArray} (h : toL a = toL b) : a = b := by rw [← toB_toL a, h, toB_toL]

def tailW : List W3 → List UInt8
  | [] => []
  | w :: r => 32 :: (w.1 ++ tailW r)

theorem join_tail : ∀ (w : W3) (r : List W3), joinL ((w :: r).map (·.1)) = w.1 ++ tailW r
  | w, [] => by simp [joinL, tailW]
  | w, v :: r => by
    have := join_tail v r
    simp only [List.map_cons] at this ⊢
    rw [joinL, this]; rfl

theorem tailW_len : ∀ r : List W3, (tailW r).length = lenW r
  | [] => rfl
  | w :: r => by simp only [tailW, lenW, List.length_cons, List.length_append, tailW_len r]; omega

theorem l5_step (s a : ByteArray) (ws : List W3) (hl : lenW ws ≤ 1048577) : ∀ (n i : Nat), i + n = ws.length → 0 < i → a.size + lenW (ws.drop i) ≤ 1048577 →
    spec_l5Words.l4 s a i (ws.map wOf) = some (if toL a ++ tailW (ws.drop i) = toL s then (ws.length : Int) else 0)
  | 0, i, e, h0, ha => by
    rw [spec_l5Words.l4_eq, iteB_ltI, lenL_eq, if_neg (by simp <;> omega), spec_l5Words.j9_eq, iteB_notB, iteB_eqS, List.drop_eq_nil_of_le (by omega)]
    simp only [tailW, List.append_nil, lenL_eq, List.length_map]
    by_cases h : a = s
    · subst h; simp
    · rw [if_neg h, if_neg (fun e => h (toL_inj e))]
  | n + 1, i, e, h0, ha => by
    obtain ⟨w, hw, hd⟩ := drop_at (l := ws) (i := i) (by omega)
    rw [hd] at ha ⊢
    simp only [lenW] at ha
    have hlw := lenW_ge ws
    rw [spec_l5Words.l4_eq, iteB_ltI, lenL_eq, if_pos (by simp <;> omega), iteB_ltI, if_pos (by omega), iteB_roomS]
    have e1 : (bs [32] : ByteArray).size = 1 := rfl
    rw [if_pos (by rw [e1, roomMax_eq]; omega), spec_l5Words.j8_eq, iteB_leI, if_pos (by omega), iteB_ltI, lenL_eq, if_pos (by simp <;> omega), atL_nat, List.getElem?_map, hw]
    simp only [Option.map_some, bindO_some']
    have e2 : (wOf w).1.size = w.1.length := by unfold wOf toB; simp [ByteArray.size]
    have e3 : (catS a (bs [32])).size = a.size + 1 := by
      rw [← toL_len, toL_cat, List.length_append, toL_len, toL_len, e1]
    rw [iteB_roomS, if_pos (by rw [e2, e3, roomMax_eq]; omega), addI64 (i : Int) 1 (by omega) (by omega), show (i : Int) + 1 = ((i + 1 : Nat) : Int) by omega]
    have e4 : (catS (catS a (bs [32])) (wOf w).1).size = a.size + 1 + w.1.length := by
      rw [← toL_len, toL_cat, List.length_append, toL_len, toL_len, e2, e3]
    rw [l5_step s _ ws hl n (i + 1) (by omega) (by omega) (by rw [e4]; omega)]
    have e5 : toL (catS (catS a (bs [32])) (wOf w).1) ++ tailW (ws.drop (i + 1)) = toL a ++ tailW (w :: ws.drop (i + 1)) := by
      rw [toL_cat, toL_cat]
      simp only [tailW, wOf, toL_toB, List.append_assoc]
      rfl
    rw [e5]

theorem l5_first (s : ByteArray) (ws : List W3) (hl : lenW ws ≤ 1048577) : spec_l5Words.l4 s (bs []) 0 (ws.map wOf) = some (if joinL (ws.map (·.1)) = toL s then (ws.length : Int) else 0) := by
  cases ws with
  | nil =>
    rw [spec_l5Words.l4_eq, iteB_ltI, lenL_eq, if_neg (by simp), spec_l5Words.j9_eq, iteB_notB, iteB_eqS]
    simp only [List.map_nil, lenL_eq, List.length_nil, joinL]
    split <;> split <;> rfl
  | cons w r =>
    have hl' := hl
    simp only [lenW] at hl
    have hlw := lenW_ge r
    rw [spec_l5Words.l4_eq, iteB_ltI, lenL_eq, if_pos (by simp <;> omega), iteB_ltI, if_neg (by omega), spec_l5Words.j8_eq, iteB_leI, if_pos (by omega), iteB_ltI, lenL_eq, if_pos (by simp <;> omega)]
    have : atL ((w :: r).map wOf) 0 = some (wOf w) := rfl
    rw [this, bindO_some', iteB_roomS]
    have e2 : (wOf w).1.size = w.1.length := by unfold wOf toB; simp [ByteArray.size]
    have e1 : (bs [] : ByteArray).size = 0 := rfl
    rw [if_pos (by rw [e2, e1, roomMax_eq]; omega), addI64 0 1 (by omega) (by omega)]
    have e4 : (catS (bs []) (wOf w).1).size = w.1.length := by
      rw [← toL_len, toL_cat, List.length_append, toL_len, toL_len, e2, e1]; omega
    have := l5_step s (catS (bs []) (wOf w).1) (w :: r) hl' r.length 1 (by simp <;> omega) (by omega) (by rw [e4]; simp; omega)
    rw [show (0 : Int) + 1 = ((1 : Nat) : Int) from rfl, this, toL_cat, join_tail]
    simp only [List.drop_succ_cons, List.drop_zero]
    rfl

theorem l5Words_ok (s : ByteArray) (hs : s.size ≤ 1048576) : spec_l5Words s = some (if joinL ((wordsP 0 (toL s)).map (·.1)) = toL s then ((wordsP 0 (toL s)).length : Int) else 0) := by
  rw [spec_l5Words_eq, sWords_ok s hs, bindO_some', l5_first]
  have := wordsP_len (toL s) 0
  rw [toL_len] at this; omega

theorem l2Text_ok (s : ByteArray) (hs : s.size ≤ 1048576) : spec_l2Text s = some ((toL s).all seenB && decide ((s.size : Int) ≤ 60)) := by
  rw [spec_l2Text_eq]
  have := loop_all (l := fun i => spec_l2Text.l2 s i) (n := s.size) (p := fun i => decide (32 ≤ byteAt s i ∧ byteAt s i ≤ 126)) (fin := decide ((s.size : Int) ≤ 60)) (fun i hi => ?_) ?_ s.size 0 (by omega)
  · refine this.trans ?_
    have e := range_all s (fun b => decide (32 ≤ b ∧ b ≤ 126))
    rw [e]; rfl
  · rw [spec_l2Text.l2_eq, iteB_ltI, lenS_eq, if_pos (by omega), atS_nat s i hi, bindO_some']
    have hb : 0 ≤ byteAt s i ∧ byteAt s i ≤ 255 := by
      have hi' : i < (toL s).length := hi
      have := atS_toL (List.getElem?_eq_getElem hi')
      rw [atS_nat s i hi] at this
      rw [Option.some.inj this]; exact byte_le _
    have hc : convI Go.IntKind.i64 (byteAt s i) = byteAt s i := IntWalk.i64_in _ ⟨by omega, by omega⟩
    rw [hc, l1In_ok, bindO_some', iteB_notB, addI64 (i : Int) 1 (by omega) (by omega)]
    unfold iteB
    rfl
  · rw [spec_l2Text.l2_eq, iteB_ltI, lenS_eq, if_neg (by omega), spec_l2Text.j6_eq]; rfl
end Go.E

set_option linter.unusedVariables false
namespace Go.E
open Go

/-! Plain: Fold, and hints. -/

theorem rowOfS_eq (s : ByteArray) : rowOfS s = (toL s).map fun b => (b.toNat : Int) := rfl
theorem rowOfS_len (s : ByteArray) : (rowOfS s).length = s.size := by rw [rowOfS_eq, List.length_map, toL_len]
theorem atS_row (s : ByteArray) (i : Nat) : atS s i = (rowOfS s)[i]? := by
  unfold atS rowOfS
  rw [if_pos (by omega)]
  simp
theorem row_byte {s : ByteArray} {i : Nat} {b : Int} (h : (rowOfS s)[i]? = some b) : 0 ≤ b ∧ b ≤ 255 := by
  rw [rowOfS_eq, List.getElem?_map, Option.map_eq_some_iff] at h
  obtain ⟨c, _, rfl⟩ := h
  exact byte_le c

def foldI (s : ByteArray) : ByteArray := strOf ((rowOfS s).map smallB)

theorem sFold_l3 (s : ByteArray) (hs : s.size ≤ 1048576) : ∀ (n i : Nat) (acc : List Int), i + n = s.size → acc.length = i → spec_Fold.l3 s i acc = some (strOf (acc ++ ((rowOfS s).drop i).map smallB))
  | 0, i, acc, e, ha => by
    rw [spec_Fold.l3_eq, iteB_ltI, lenS_eq, if_neg (by omega), spec_Fold.j6_eq, List.drop_eq_nil_of_le (by rw [rowOfS_len]; omega)]; simp
  | n + 1, i, acc, e, ha => by
    obtain ⟨b, hb, hd⟩ := drop_at (l := rowOfS s) (i := i) (by rw [rowOfS_len]; omega)
    have hbb := row_byte hb
    rw [spec_Fold.l3_eq, iteB_ltI, lenS_eq, if_pos (by omega), atS_row, hb, bindO_some', small_ok b hbb.1 hbb.2, bindO_some', iteB_room, if_pos (by simp; rw [roomMax_eq]; omega), addI64 (i : Int) 1 (by omega) (by omega),
      show (i : Int) + 1 = ((i + 1 : Nat) : Int) by omega]
    unfold appL
    rw [sFold_l3 s hs n (i + 1) _ (by omega) (by simp; omega), hd]
    simp

theorem sFold_ok (s : ByteArray) (hs : s.size ≤ 1048576) : spec_Fold s = some (foldI s) := by
  rw [spec_Fold_eq]
  have := sFold_l3 s hs s.size 0 [] (by omega) rfl
  unfold foldI
  simpa using this

theorem iFold_l3 (r : List Int) (hr : r.length ≤ 1048576) (hb : ∀ (i : Nat) (b : Int), r[i]? = some b → 0 ≤ b ∧ b ≤ 255) : ∀ (n i : Nat), i + n = r.length → impl_Fold.l3 (r.length : Int) i ((r.take i).map smallB ++ r.drop i) = some (strOf (r.map smallB))
  | 0, i, e => by
    rw [impl_Fold.l3_eq, iteB_ltI, if_neg (by omega), impl_Fold.j8_eq, List.drop_eq_nil_of_le (by omega), List.take_of_length_le (by omega)]; simp
  | n + 1, i, e => by
    obtain ⟨b, hbi, hd⟩ := drop_at (l := r) (i := i) (by omega)
    have hbb := hb i b hbi
    have hl : ((r.take i).map smallB ++ r.drop i).length = r.length := by simp; omega
    have hat : ((r.take i).map smallB ++ r.drop i)[i]? = some b := by
      rw [List.getElem?_append_right (by simp; omega)]
      simp only [List.length_map, List.length_take]
      rw [Nat.min_eq_left (by omega), Nat.sub_self, hd]; rfl
    have ht : r.take (i + 1) = r.take i ++ [b] := by rw [List.take_add_one, hbi]; rfl
    have hset : setL ((r.take i).map smallB ++ r.drop i) i (smallB b) = (r.take (i + 1)).map smallB ++ r.drop (i + 1) := by
      unfold setL
      rw [Int.toNat_natCast, List.set_append_right _ _ (by simp; omega), ht, hd]
      simp only [List.length_map, List.length_take]
      rw [Nat.min_eq_left (by omega), Nat.sub_self]; simp
    rw [impl_Fold.l3_eq, iteB_ltI, if_pos (by omega), iteB_leI, if_pos (by omega), iteB_ltI, lenL_eq, if_pos (by omega), atL_nat, hat, bindO_some', upper_ok, bindO_some']
    cases hu : upperB b with
    | true =>
      have hu' : 65 ≤ b ∧ b ≤ 90 := by unfold upperB at hu; simpa using hu
      have hsm : subI Go.IntKind.u8 (addI Go.IntKind.u8 b (97 : Int)) (65 : Int) = smallB b := by
        unfold smallB; rw [if_pos hu']
        have h1 : addI Go.IntKind.u8 b 97 = b + 97 := IntWalk.u8_in _ ⟨by omega, by omega⟩
        rw [h1]
        have h2 : subI Go.IntKind.u8 (b + 97) 65 = b + 97 - 65 := IntWalk.u8_in _ ⟨by omega, by omega⟩
        rw [h2]; omega
      rw [iteB_t, iteB_leI, if_pos (by omega), iteB_ltI, if_pos (by omega), bindO_some', impl_Fold.j7_eq, hsm, hset, addI64 (i : Int) 1 (by omega) (by omega), show (i : Int) + 1 = ((i + 1 : Nat) : Int) by omega]
      exact iFold_l3 r hr hb n (i + 1) (by omega)
    | false =>
      have hu' : ¬ (65 ≤ b ∧ b ≤ 90) := by unfold upperB at hu; simpa using hu
      have hsm : smallB b = b := by unfold smallB; rw [if_neg hu']
      rw [iteB_f, impl_Fold.j7_eq, addI64 (i : Int) 1 (by omega) (by omega), show (i : Int) + 1 = ((i + 1 : Nat) : Int) by omega]
      have hset2 : (r.take i).map smallB ++ r.drop i = (r.take (i + 1)).map smallB ++ r.drop (i + 1) := by
        rw [ht, hd]; simp [hsm]
      rw [hset2]
      exact iFold_l3 r hr hb n (i + 1) (by omega)

theorem iFold_ok (s : ByteArray) (hs : s.size ≤ 1048576) : impl_Fold s = some (foldI s) := by
  rw [impl_Fold_eq]
  have := iFold_l3 (rowOfS s) (by rw [rowOfS_len]; exact hs) (fun i b h => row_byte h) (rowOfS s).length 0 (by omega)
  exact this

/-- Whether a text may be a hint. -/
def hintT (s : ByteArray) : Bool := (splitL (toL s)).all wordL && (decide ((s.size : Int) ≤ 60) && decide (foldI s = s))
def hintB (x : ByteArray × Int) : Bool := hintT x.1 && decide (1 ≤ x.2 ∧ x.2 ≤ 999999999)

theorem iHint_ok (x : ByteArray × Int) (hs : x.1.size ≤ 1048576) : impl_hintOk x = some (hintB x) := by
  rw [impl_hintOk_eq, wordsOk_ok x.1 hs, bindO_some', iFold_ok x.1 hs, bindO_some', within_ok, bindO_some']
  unfold hintB hintT eqS
  by_cases h1 : (splitL (toL x.1)).all wordL = true
  · have h2 := split_many _ h1
    have h3 := List.length_pos_iff.2 (splitL_ne (toL x.1))
    rw [toL_len] at h2
    rw [h1]
    by_cases h4 : (x.1.size : Int) ≤ 60
    · have : decide ((1 : Int) ≤ ((splitL (toL x.1)).length : Int) ∧ ((splitL (toL x.1)).length : Int) ≤ 60) = true := decide_eq_true ⟨by omega, by omega⟩
      rw [this]
      by_cases h5 : foldI x.1 = x.1
      · simp [h4, h5, iteB]
      · simp [h4, h5, iteB]
    · simp [h4, iteB]
  · have h1' : (splitL (toL x.1)).all wordL = false := by simpa using h1
    rw [h1']; simp [iteB]

theorem sHintT_ok (s : ByteArray) (hs : s.size ≤ 1048576) : spec_l9Ok s = some (hintT s) := by
  rw [spec_l9Ok_eq, l2Text_ok s hs, bindO_some', l5Words_ok s hs, bindO_some', sFold_ok s hs, bindO_some', iteB_ltI]
  unfold hintT eqS
  have hlen : ((wordsP 0 (toL s)).map (·.1) ≠ []) ↔ 0 < ((wordsP 0 (toL s)).length : Int) := by
    cases wordsP 0 (toL s) <;> simp <;> omega
  by_cases h1 : (splitL (toL s)).all wordL = true
  · have h2 := words_seen _ h1
    obtain ⟨h3, h4⟩ := (words_iff (toL s)).1 h1
    rw [h1, h2, if_pos h4, if_pos (hlen.1 h3)]
    by_cases h5 : (s.size : Int) ≤ 60 <;> simp [h5, iteB]
  · have h1' : (splitL (toL s)).all wordL = false := by simpa using h1
    rw [h1']
    have : ¬ (0 < if joinL ((wordsP 0 (toL s)).map (·.1)) = toL s then ((wordsP 0 (toL s)).length : Int) else 0) := by
      split
      · rename_i hj
        intro hp
        exact h1 ((words_iff (toL s)).2 ⟨hlen.2 hp, hj⟩)
      · omega
    rw [if_neg this]
    simp [iteB]

/-- What both look at, hint by hint. -/
def hintAt (l : List (ByteArray × Int)) (i : Nat) : Bool := match l[i]? with
  | none => false
  | some x => hintB x && (decide (i = 0) || match l[i - 1]? with
    | none => false
    | some y => ltS y.1 x.1)

def hintsB (l : List (ByteArray × Int)) : Bool := (List.range' 0 l.length).all (hintAt l) && decide ((l.length : Int) ≤ 10)

theorem hintAt_eq (l : List (ByteArray × Int)) (i : Nat) (h : i < l.length) : hintAt l i = (hintB l[i] && (decide (i = 0) || match l[i - 1]? with
    | none => false
    | some y => ltS y.1 l[i].1)) := by
  unfold hintAt; rw [List.getElem?_eq_getElem h]

abbrev HL := List (ByteArray × Int)
def Small (l : HL) : Prop := l.length ≤ 1048576 ∧ ∀ x ∈ l, x.1.size ≤ 1048576

theorem iHints_ok (l : HL) (hl : Small l) : impl_HintsOk l = some (hintsB l) := by
  obtain ⟨hn, hx⟩ := hl
  rw [impl_HintsOk_eq]
  have := loop_all (l := fun i => impl_HintsOk.l2 l l (lenL l) i) (n := l.length) (p := hintAt l) (fin := decide ((l.length : Int) ≤ 10)) (fun i hi => ?_) ?_ l.length 0 (by omega)
  · exact this
  · have hg := List.getElem?_eq_getElem hi
    have hsz := hx _ (List.getElem_mem hi)
    rw [impl_HintsOk.l2_eq, iteB_ltI, lenL_eq, if_pos (by omega), atL_nat, hg, bindO_some', iHint_ok _ hsz, bindO_some', iteB_notB, iteB_ltI, addI64 (i : Int) 1 (by omega) (by omega)]
    rw [hintAt_eq l i hi]
    by_cases hB : hintB l[i] = true
    rotate_left
    · have hB' : hintB l[i] = false := by simpa using hB
      rw [hB']; simp [iteB]
    · rw [hB, iteB_t]
      by_cases h0 : i = 0
      · subst h0; simp
      · have hg1 := List.getElem?_eq_getElem (l := l) (i := i - 1) (by omega)
        rw [if_pos (by omega), subI64 (i : Int) 1 (by omega) (by omega), show (i : Int) - 1 = ((i - 1 : Nat) : Int) by omega, atL_nat, hg1, bindO_some', iteB_notB]
        simp only [h0, decide_false, Bool.false_or, Bool.true_and]
        unfold iteB
        rfl
  · rw [impl_HintsOk.l2_eq, iteB_ltI, lenL_eq, if_neg (by omega), impl_HintsOk.j7_eq]; rfl

theorem sHints_ok (l : HL) (hl : Small l) : spec_HintsOk l = some (hintsB l) := by
  obtain ⟨hn, hx⟩ := hl
  rw [spec_HintsOk_eq]
  have := loop_all (l := fun i => spec_HintsOk.l2 l i) (n := l.length) (p := hintAt l) (fin := decide ((l.length : Int) ≤ 10)) (fun i hi => ?_) ?_ l.length 0 (by omega)
  · exact this
  · have hg := List.getElem?_eq_getElem hi
    have hsz := hx _ (List.getElem_mem hi)
    rw [spec_HintsOk.l2_eq, iteB_ltI, lenL_eq, if_pos (by omega)]
    simp only [atL_nat, hg, bindO_some', sHintT_ok _ hsz, l1In_ok, iteB_notB]
    rw [iteB_ltI, addI64 (i : Int) 1 (by omega) (by omega)]
    rw [hintAt_eq l i hi]
    unfold hintB
    by_cases hB : hintT l[i].1 = true
    rotate_left
    · have hB' : hintT l[i].1 = false := by simpa using hB
      rw [hB']; simp [iteB]
    · rw [hB, iteB_t]
      by_cases hW : 1 ≤ l[i].2 ∧ l[i].2 ≤ 999999999
      rotate_left
      · rw [decide_eq_false hW]; simp [iteB]
      · rw [decide_eq_true hW, iteB_t]
        by_cases h0 : i = 0
        · subst h0; simp
        · have hg1 := List.getElem?_eq_getElem (l := l) (i := i - 1) (by omega)
          rw [if_pos (by omega), subI64 (i : Int) 1 (by omega) (by omega), show (i : Int) - 1 = ((i - 1 : Nat) : Int) by omega, atL_nat, hg1, bindO_some']
          simp only [h0, decide_false, Bool.false_or, Bool.true_and]
          unfold iteB
          rfl
  · rw [spec_HintsOk.l2_eq, iteB_ltI, lenL_eq, if_neg (by omega), spec_HintsOk.j6_eq]; rfl
end Go.E

set_option linter.unusedVariables false
namespace Go.E
open Go

/-! Plain: the law 'FnExactHintsOk' holds of every list. -/

theorem szHint_ok (x : ByteArray × Int) (h : x.1.size ≤ 9223372036854775807) (left : Int) (h0 : 0 ≤ left) (h1 : left ≤ 1048576) :
    laws_szHint (x, left) = some (if left - (x.1.size : Int) < 0 then -1 else left - (x.1.size : Int)) := by
  rw [laws_szHint_eq, lenS_eq, subI64 left _ (by omega) (by omega), iteB_ltI]
  split <;> rfl

theorem szHintS_l5 (l : HL) (hg : ∀ x ∈ l, x.1.size ≤ 9223372036854775807) (hn : l.length ≤ 1048576) : ∀ (n i : Nat) (left : Int), i + n = l.length → 0 ≤ left → left ≤ 1048576 →
    ∃ v, laws_szHintS.l5 l left i = some v ∧ (0 ≤ v → ∀ x ∈ l.drop i, x.1.size ≤ 1048576)
  | 0, i, left, e, h0, h1 => by
    refine ⟨left, ?_, fun _ x hx => ?_⟩
    · rw [laws_szHintS.l5_eq, iteB_ltI, lenL_eq, if_neg (by omega), laws_szHintS.j10_eq]
    · rw [List.drop_eq_nil_of_le (by omega)] at hx; cases hx
  | n + 1, i, left, e, h0, h1 => by
    obtain ⟨x, hx, hd⟩ := drop_at (l := l) (i := i) (by omega)
    have hxs := hg x (List.mem_of_getElem? hx)
    rw [laws_szHintS.l5_eq, iteB_ltI, lenL_eq, if_pos (by omega), atL_nat, hx, bindO_some', szHint_ok x hxs left h0 h1, bindO_some', iteB_ltI]
    by_cases hc : left - (x.1.size : Int) < 0
    · rw [if_pos hc, if_pos (by omega)]
      exact ⟨-1, rfl, fun h => by omega⟩
    · rw [if_neg hc, if_neg hc, addI64 (i : Int) 1 (by omega) (by omega), show (i : Int) + 1 = ((i + 1 : Nat) : Int) by omega]
      obtain ⟨v, k1, k2⟩ := szHintS_l5 l hg hn n (i + 1) (left - (x.1.size : Int)) (by omega) (by omega) (by omega)
      refine ⟨v, k1, fun hv y hy => ?_⟩
      rw [hd] at hy
      rcases List.mem_cons.1 hy with rfl | hy
      · omega
      · exact k2 hv y hy

theorem szHintS_ok (l : HL) (hg : ∀ x ∈ l, x.1.size ≤ 9223372036854775807) (hn : l.length ≤ 9223372036854775807) : ∃ v, laws_szHintS (l, 1048576) = some v ∧ (0 ≤ v → Small l) := by
  rw [laws_szHintS_eq, lenL_eq, subI64 1048576 _ (by omega) (by omega), iteB_ltI]
  by_cases hc : (1048576 : Int) - (l.length : Int) < 0
  · rw [if_pos hc]; exact ⟨-1, rfl, fun h => by omega⟩
  · rw [if_neg hc]
    obtain ⟨v, k1, k2⟩ := szHintS_l5 l hg (by omega) l.length 0 (1048576 - (l.length : Int)) (by omega) (by omega) (by omega)
    exact ⟨v, k1, fun hv => ⟨by omega, fun x hx => k2 hv x (by simpa using hx)⟩⟩

theorem toHintS_l3 (l : HL) (hn : l.length ≤ 1048576) (z : ByteArray × Int) : ∀ (n i : Nat), i + n = l.length → laws_toHintS.l3 l i (l.take i ++ List.replicate n z) = some l
  | 0, i, e => by
    rw [laws_toHintS.l3_eq, iteB_ltI, lenL_eq, if_neg (by omega), laws_toHintS.j6_eq, List.take_of_length_le (by omega)]; simp
  | n + 1, i, e => by
    obtain ⟨x, hx, hd⟩ := drop_at (l := l) (i := i) (by omega)
    have hl : (l.take i ++ List.replicate (n + 1) z).length = l.length := by simp; omega
    have hat : (l.take i ++ List.replicate (n + 1) z)[i]? = some z := by
      rw [List.getElem?_append_right (by simp; omega)]
      simp only [List.length_take]
      rw [Nat.min_eq_left (by omega), Nat.sub_self]; rfl
    have ht : l.take (i + 1) = l.take i ++ [x] := by rw [List.take_add_one, hx]; rfl
    have hset : setL (l.take i ++ List.replicate (n + 1) z) i x = l.take (i + 1) ++ List.replicate n z := by
      unfold setL
      rw [Int.toNat_natCast, List.set_append_right _ _ (by simp; omega), ht]
      simp only [List.length_take]
      rw [Nat.min_eq_left (by omega), Nat.sub_self, List.replicate_succ]; simp
    rw [laws_toHintS.l3_eq, iteB_ltI, lenL_eq, if_pos (by omega), atL_nat, hx, bindO_some', laws_toHint_eq, bindO_some', iteB_leI, if_pos (by omega), iteB_ltI, lenL_eq, hl, if_pos (by omega), atL_nat, hat, bindO_some', hset,
      addI64 (i : Int) 1 (by omega) (by omega), show (i : Int) + 1 = ((i + 1 : Nat) : Int) by omega]
    exact toHintS_l3 l hn z n (i + 1) (by omega)

theorem toHintS_ok (l : HL) (hn : l.length ≤ 1048576) : laws_toHintS l = some l := by
  rw [laws_toHintS_eq, lenL_eq, iteB_eqI, if_pos rfl, iteB_roomN, if_pos (by rw [roomMax_eq]; omega)]
  exact toHintS_l3 l hn _ l.length 0 (by omega)

theorem eqHint_ok (x : ByteArray × Int) : laws_eqHint (x, x) = some true := by
  rw [laws_eqHint_eq, iteB_notB, iteB_notB, iteB_eqS, iteB_eqI, if_pos rfl, if_pos rfl]

theorem eqHintS_ok (l : HL) (hn : l.length ≤ 1048576) : laws_eqHintS (l, l) = some true := by
  rw [laws_eqHintS_eq, iteB_notB, iteB_eqI, if_pos rfl]
  have := loop_all (l := fun i => laws_eqHintS.l4 l l i) (n := l.length) (p := fun _ => true) (fin := true) (fun i hi => ?_) ?_ l.length 0 (by omega)
  · exact this.trans (by simp)
  · rw [laws_eqHintS.l4_eq, iteB_ltI, lenL_eq, if_pos (by omega)]
    simp only [atL_nat, List.getElem?_eq_getElem hi, bindO_some', eqHint_ok, iteB_notB]
    rw [iteB_t, addI64 (i : Int) 1 (by omega) (by omega)]; rfl
  · rw [laws_eqHintS.l4_eq, iteB_ltI, lenL_eq, if_neg (by omega), laws_eqHintS.j8_eq]

/-- The law, of every list. -/
theorem exactHintsOk (l : HL) (hg : ∀ x ∈ l, x.1.size ≤ 9223372036854775807) (hn : l.length ≤ 9223372036854775807) : laws_FnExactHintsOk l = some true := by
  obtain ⟨v, h1, h2⟩ := szHintS_ok l hg hn
  rw [laws_FnExactHintsOk_eq, h1, bindO_some', iteB_ltI]
  by_cases hv : v < 0
  · rw [if_pos hv]
  · have hs := h2 (by omega)
    rw [if_neg hv]
    simp only [toHintS_ok l hs.1, sHints_ok l hs, iHints_ok l hs, eqHintS_ok l hs.1, bindO_some']
    unfold eqBo
    simp [iteB, notB]
/-- The law, as its row asks. -/
theorem exactHintsOk' (l : HL) (hg : Good' (.sl (.pr .str (.int .i64))) l) : laws_FnExactHintsOk l = some true := by
  obtain ⟨h1, h2⟩ := hg
  have hm : maxLen = 9223372036854775807 := by decide
  rw [hm] at h1
  refine exactHintsOk l (fun x hx => ?_) h1
  have := (h2 x hx).1
  have h3 : x.1.size ≤ maxLen := this
  rw [hm] at h3; exact h3
end Go.E

set_option linter.unusedVariables false
namespace Go.E
open Go

/-! Plain: the order of texts, and insertion sort. -/

theorem less_irrefl : ∀ a : List UInt8, Op.bytesLess a a = false
  | [] => rfl
  | x :: a => by
    have := less_irrefl a
    simp [Op.bytesLess, this]

theorem less_trans : ∀ a b c : List UInt8, Op.bytesLess a b = true → Op.bytesLess b c = true → Op.bytesLess a c = true
  | _, [], _, h, _ => by simp [Op.bytesLess] at h
  | _, _ :: _, [], _, h => by simp [Op.bytesLess] at h
  | [], _ :: _, _ :: _, _, _ => rfl
  | x :: a, y :: b, z :: c, h, k => by
    simp only [Op.bytesLess, Bool.or_eq_true, decide_eq_true_eq, Bool.and_eq_true, beq_iff_eq] at h k ⊢
    rcases h with h | ⟨rfl, h⟩
    · rcases k with k | ⟨rfl, k⟩
      · exact .inl (UInt8.lt_trans h k)
      · exact .inl h
    · rcases k with k | ⟨rfl, k⟩
      · exact .inl k
      · exact .inr ⟨rfl, less_trans a b c h k⟩

theorem ltS_irrefl (a : ByteArray) : ltS a a = false := less_irrefl _
theorem ltS_trans {a b c : ByteArray} (h : ltS a b = true) (k : ltS b c = true) : ltS a c = true := less_trans _ _ _ h k
theorem ltS_asym {a b : ByteArray} (h : ltS a b = true) : ltS b a = false := by
  cases hb : ltS b a with
  | false => rfl
  | true => have := ltS_trans h hb; rw [ltS_irrefl] at this; cases this
theorem ltS_total (a b : ByteArray) : (ltS a b || eqS a b) = !ltS b a := by
  have := bytesLess_total a.toList b.toList
  rw [eqS_eq] at this
  exact this
theorem ltS_ne {a b : ByteArray} (h : a ≠ b) (k : ltS a b = false) : ltS b a = true := by
  have := ltS_total a b
  rw [k] at this
  have e : eqS a b = false := decide_eq_false h
  rw [e] at this
  simpa using this.symm
theorem ltS_neq {a b : ByteArray} (h : ltS a b = true) : a ≠ b := fun e => by rw [e, ltS_irrefl] at h; cases h

section
variable {α R : Type}

/-- An element put into a row that is told from its end. -/
def insR (lt : α → α → Bool) (x : α) : List α → List α
  | [] => [x]
  | y :: ys => if lt x y = true then y :: insR lt x ys else x :: y :: ys

theorem insR_len (lt : α → α → Bool) (x : α) : ∀ l, (insR lt x l).length = l.length + 1
  | [] => rfl
  | y :: ys => by simp only [insR]; split <;> simp [insR_len lt x ys]

def isort (lt : α → α → Bool) (l : List α) : List α := (l.foldl (fun acc x => insR lt x acc) []).reverse

theorem mid {A B : List α} {x : α} : (A ++ x :: B)[A.length]? = some x := by simp

/-- The inner loop of an insertion sort. -/
theorem ins_loop {F : Int → List α → Option R} {lt : α → α → Bool} {fin : List α → Option R} {n : Nat}
    (h0 : ∀ l : List α, l.length = n → 0 < n → F 0 l = fin l)
    (step : ∀ (j : Nat) (l : List α) (x y : α), l.length = n → j + 1 < n → l[j + 1]? = some x → l[j]? = some y → F ((j + 1 : Nat) : Int) l = if lt x y = true then F (j : Int) ((l.set (j + 1) y).set j x) else fin l) :
    ∀ (Ar : List α) (x : α) (B : List α), (Ar.reverse ++ x :: B).length = n → F (Ar.length : Int) (Ar.reverse ++ x :: B) = fin ((insR lt x Ar).reverse ++ B)
  | [], x, B, hn => by
    simp only [List.reverse_nil, List.nil_append, List.length_nil, insR, List.reverse_cons] at hn ⊢
    exact h0 _ hn (by simp at hn; omega)
  | y :: ys, x, B, hn => by
    have hl : (y :: ys).reverse ++ x :: B = ys.reverse ++ y :: x :: B := by simp
    rw [hl] at hn ⊢
    have hx : (ys.reverse ++ y :: x :: B)[ys.length + 1]? = some x := by
      rw [List.getElem?_append_right (by simp)]; simp
    have hy : (ys.reverse ++ y :: x :: B)[ys.length]? = some y := by
      rw [List.getElem?_append_right (by simp)]; simp
    have hlen : ys.length + 1 < n := by simp at hn; omega
    rw [List.length_cons, step ys.length _ x y hn hlen hx hy]
    simp only [insR]
    split
    · have hs : ((ys.reverse ++ y :: x :: B).set (ys.length + 1) y).set ys.length x = ys.reverse ++ x :: y :: B := by
        rw [List.set_append_right _ _ (by simp), List.set_append_right _ _ (by simp)]
        simp
      rw [hs, ins_loop h0 step ys x (y :: B) (by simp at hn ⊢; omega)]
      simp
    · simp

/-- The outer loop. -/
theorem sort_loop {F1 : Int → List α → Option R} {lt : α → α → Bool} {fin : List α → Option R} {n : Nat}
    (hend : ∀ l : List α, l.length = n → F1 (n : Int) l = fin l)
    (step : ∀ (Ar : List α) (x : α) (B : List α), (Ar.reverse ++ x :: B).length = n → F1 (Ar.length : Int) (Ar.reverse ++ x :: B) = F1 ((Ar.length + 1 : Nat) : Int) ((insR lt x Ar).reverse ++ B)) :
    ∀ (B Ar : List α), (Ar.reverse ++ B).length = n → F1 (Ar.length : Int) (Ar.reverse ++ B) = fin ((B.foldl (fun acc x => insR lt x acc) Ar).reverse)
  | [], Ar, hn => by
    have e : Ar.length = n := by simpa using hn
    rw [e]
    simp only [List.append_nil, List.foldl_nil] at hn ⊢
    exact hend _ hn
  | x :: B, Ar, hn => by
    rw [step Ar x B hn]
    have := sort_loop hend step B (insR lt x Ar) (by rw [List.length_append, List.length_reverse, insR_len]; simp at hn; omega)
    rw [insR_len] at this
    rw [this]; rfl

theorem foldl_sorted {lt : α → α → Bool} (has : ∀ x y, lt x y = true → lt y x = false) : ∀ (l acc : List α), l.Pairwise (fun x y => lt x y = true) → (∀ y ∈ acc.head?, ∀ x ∈ l.head?, lt y x = true) → l.foldl (fun acc x => insR lt x acc) acc = l.reverse ++ acc
  | [], acc, _, _ => rfl
  | x :: l, acc, h, ha => by
    have hins : insR lt x acc = x :: acc := by
      cases acc with
      | nil => rfl
      | cons y ys =>
        have := has y x (ha y (by simp) x (by simp))
        simp only [insR]; rw [if_neg (by rw [this]; simp)]
    rw [List.foldl_cons, hins, foldl_sorted has l (x :: acc) (List.pairwise_cons.1 h).2 (fun y hy z hz => by
      simp at hy; subst hy
      cases l with
      | nil => simp at hz
      | cons w l => simp at hz; subst hz; exact (List.pairwise_cons.1 h).1 w (by simp))]
    simp

theorem isort_sorted {lt : α → α → Bool} (has : ∀ x y, lt x y = true → lt y x = false) {l : List α} (h : l.Pairwise (fun x y => lt x y = true)) : isort lt l = l := by
  unfold isort
  rw [foldl_sorted has l [] h (fun y hy => by simp at hy)]; simp

theorem tw_all {p : α → Bool} : ∀ l : List α, (∀ z ∈ l, p z = true) → l.takeWhile p = l ∧ l.dropWhile p = []
  | [], _ => ⟨rfl, rfl⟩
  | x :: l, h => by
    obtain ⟨h1, h2⟩ := tw_all l (fun z hz => h z (by simp [hz]))
    have hx := h x (by simp)
    simp [hx, h1, h2]
theorem tw_len {p : α → Bool} : ∀ l : List α, (l.takeWhile p).length = l.length → ∀ z ∈ l, p z = true
  | [], _, z, hz => by cases hz
  | x :: l, h, z, hz => by
    by_cases hx : p x = true
    · simp only [List.takeWhile_cons, hx, if_true, List.length_cons, Nat.add_right_cancel_iff] at h
      rcases List.mem_cons.1 hz with rfl | hz
      · exact hx
      · exact tw_len l h z hz
    · simp [hx] at h
theorem dw_nil {p : α → Bool} : ∀ l : List α, l.dropWhile p = [] → ∀ z ∈ l, p z = true
  | [], _, z, hz => by cases hz
  | x :: l, h, z, hz => by
    by_cases hx : p x = true
    · simp only [List.dropWhile_cons, hx, if_true] at h
      rcases List.mem_cons.1 hz with rfl | hz
      · exact hx
      · exact dw_nil l h z hz
    · simp [hx] at h

/-- The place of one more, told from the beginning. -/
theorem ins_take {lt : α → α → Bool} (has : ∀ x y, lt x y = true → lt y x = false) (htr : ∀ x y z, lt x y = true → lt y z = true → lt x z = true) {x : α} : ∀ (r : List α), (∀ y ∈ r, lt x y = false → lt y x = true) → r.reverse.Pairwise (fun x y => lt x y = true) →
    (insR lt x r).reverse = r.reverse.takeWhile (fun y => lt y x) ++ x :: r.reverse.dropWhile (fun y => lt y x)
  | [], _, _ => by simp [insR]
  | y :: ys, ht, hp => by
    have hp' : ys.reverse.Pairwise (fun x y => lt x y = true) := by
      rw [List.reverse_cons, List.pairwise_append] at hp; exact hp.1
    have hys : ∀ z ∈ ys, lt z y = true := fun z hz => by
      rw [List.reverse_cons, List.pairwise_append] at hp
      exact hp.2.2 z (by simpa using hz) y (by simp)
    have ih := ins_take has htr ys (fun z hz => ht z (by simp [hz])) hp'
    simp only [insR]
    by_cases hxy : lt x y = true
    · rw [if_pos hxy, List.reverse_cons, ih, List.reverse_cons]
      have hyx := has x y hxy
      by_cases hall : ∀ z ∈ ys.reverse, lt z x = true
      · have e1 : ys.reverse.takeWhile (fun y => lt y x) = ys.reverse := (tw_all _ hall).1
        have e2 : ys.reverse.dropWhile (fun y => lt y x) = [] := (tw_all _ hall).2
        rw [List.takeWhile_append_of_pos hall, List.dropWhile_append_of_pos hall, e1, e2]
        simp [hyx]
      · have e1 : (ys.reverse ++ [y]).takeWhile (fun y => lt y x) = ys.reverse.takeWhile (fun y => lt y x) := by
          rw [List.takeWhile_append]
          split
          · rename_i h
            exact absurd (tw_len _ h) hall
          · rfl
        have e2 : (ys.reverse ++ [y]).dropWhile (fun y => lt y x) = ys.reverse.dropWhile (fun y => lt y x) ++ [y] := by
          rw [List.dropWhile_append]
          split
          · rename_i h
            exact absurd (dw_nil _ (by simpa using h)) hall
          · rfl
        rw [e1, e2]; simp
    · have hxy' : lt x y = false := by simpa using hxy
      have hyx := ht y (by simp) hxy'
      rw [if_neg hxy]
      have hall : ∀ z ∈ (y :: ys).reverse, lt z x = true := fun z hz => by
        rw [List.mem_reverse, List.mem_cons] at hz
        rcases hz with rfl | hz
        · exact hyx
        · exact htr z y x (hys z hz) hyx
      rw [(tw_all _ hall).1, (tw_all _ hall).2]
      simp
end
end Go.E

set_option linter.unusedVariables false
namespace Go.E
open Go

/-! Plain: hints, sorted by text. -/

def ltT (x y : ByteArray × Int) : Bool := ltS x.1 y.1
theorem ltT_asym : ∀ x y, ltT x y = true → ltT y x = false := fun _ _ h => ltS_asym h
theorem ltT_trans : ∀ x y z, ltT x y = true → ltT y z = true → ltT x z = true := fun _ _ _ h k => ltS_trans h k

theorem cmpS_ok (a b : ByteArray) : cmp_Compare_string (a, b) = some (if ltS a b = true then -1 else if ltS b a = true then 1 else 0) := by
  rw [cmp_Compare_string_eq, cmp_isNaN_string_eq, cmp_isNaN_string_eq]
  simp only [bindO_some']
  have e : ∀ x : ByteArray, notB (eqS x x) = false := fun x => by simp [notB, eqS]
  rw [e, e, iteB_f, iteB_f]
  unfold iteB
  cases ltS a b <;> cases ltS b a <;> rfl

theorem hintAdd2_ok (x y : ByteArray × Int) : ∃ c, impl_HintAdd_2 (x, y) = some c ∧ (ltI c 0 = ltT x y) := by
  rw [impl_HintAdd_2_eq, cmpS_ok]
  refine ⟨_, rfl, ?_⟩
  unfold ltT
  cases h : ltS x.1 y.1 <;> cases k : ltS y.1 x.1 <;> simp [ltI]

theorem sortA_l1 (l : HL) (n : Nat) (hn : l.length = n) (h12 : n ≤ 12) : slices_insertionSortCmpFunc_impl_Hint_A (l, (0, ((n : Int), ()))) = some (isort ltT l) := by
  rw [slices_insertionSortCmpFunc_impl_Hint_A_eq, addI64 0 1 (by omega) (by omega)]
  cases l with
  | nil =>
    simp at hn; subst hn
    rw [slices_insertionSortCmpFunc_impl_Hint_A.l1_eq, iteB_ltI, if_neg (by omega)]; rfl
  | cons x l =>
    have key := sort_loop (F1 := fun i m => slices_insertionSortCmpFunc_impl_Hint_A.l1 0 (n : Int) i m) (lt := ltT) (fin := fun m => some m) (n := n)
      (fun m hm => by
        rw [slices_insertionSortCmpFunc_impl_Hint_A.l1_eq, iteB_ltI, if_neg (by omega)])
      (fun Ar x B hm => ?_) l [x] (by simpa using hn)
    · simp only [List.length_cons, List.length_nil, List.reverse_cons, List.reverse_nil, List.nil_append, List.singleton_append] at key
      have : ((0 + 1 : Nat) : Int) = 0 + 1 := rfl
      rw [this] at key
      rw [key]
      rfl
    · have hlt : Ar.length < n := by simp at hm; omega
      rw [slices_insertionSortCmpFunc_impl_Hint_A.l1_eq, iteB_ltI, if_pos (by omega)]
      refine ins_loop (F := fun j m => slices_insertionSortCmpFunc_impl_Hint_A.l4 0 (n : Int) (Ar.length : Int) j m) (lt := ltT) (fin := fun m => slices_insertionSortCmpFunc_impl_Hint_A.l1 0 (n : Int) ((Ar.length + 1 : Nat) : Int) m) (n := n) ?_ ?_ Ar x B hm
      · intro m hm h0
        rw [slices_insertionSortCmpFunc_impl_Hint_A.l4_eq, iteB_ltI, if_neg (by omega), slices_insertionSortCmpFunc_impl_Hint_A.j2_eq, addI64 (Ar.length : Int) 1 (by omega) (by omega)]
        rfl
      · intro j m u v hm hj hu hv
        obtain ⟨c, hc1, hc2⟩ := hintAdd2_ok u v
        have es : subI Go.IntKind.i64 ((j + 1 : Nat) : Int) 1 = (j : Int) := by rw [subI64 _ 1 (by omega) (by omega)]; omega
        have hset : (setL m ((j + 1 : Nat) : Int) v)[j]? = some v := by
          unfold setL; rw [Int.toNat_natCast, List.getElem?_set_ne (by omega)]; exact hv
        rw [slices_insertionSortCmpFunc_impl_Hint_A.l4_eq]
        simp only [es, iteB_ltI, iteB_leI, lenL_eq, atL_nat, hu, hv, bindO_some', hc1]
        have hsl : (setL m ((j + 1 : Nat) : Int) v).length = m.length := by unfold setL; simp
        rw [if_pos (by omega), if_pos (by omega), if_pos (by omega), if_pos (by omega), if_pos (by omega)]
        have hc3 : (c < 0) = (ltT u v = true) := by
          rw [← hc2]; unfold ltI; simp
        simp only [hc3]
        split
        · rw [if_pos (by omega), if_pos (by omega), if_pos (by omega), if_pos (by omega), if_pos (by omega), if_pos (by omega), if_pos (by omega), if_pos (by rw [hsl]; omega), hset, bindO_some']
          unfold setL
          simp only [Int.toNat_natCast]
        · rw [slices_insertionSortCmpFunc_impl_Hint_A.j2_eq, addI64 (Ar.length : Int) 1 (by omega) (by omega)]
          rfl

theorem bitsLen_ok (n : Nat) (h : n ≤ 12) : ∃ z, math_bits_Len (convI Go.IntKind.u64 (n : Int)) = some z := by
  rw [math_bits_Len_eq, math_bits_Len64_eq]
  have hc : convI Go.IntKind.u64 (n : Int) = (n : Int) := IntWalk.u64_in _ ⟨by omega, by omega⟩
  rw [hc, iteB_leI, if_neg (by omega), math_bits_Len64.j4_eq, iteB_leI, if_neg (by omega), math_bits_Len64.j7_eq, iteB_leI, if_neg (by omega), math_bits_Len64.j10_eq]
  have hc2 : convI Go.IntKind.u8 (n : Int) = (n : Int) := IntWalk.u8_in _ ⟨by omega, by omega⟩
  rw [hc2, atS_nat _ n (Nat.lt_of_lt_of_le (Nat.lt_succ_of_le h) (Nat.le_of_ble_eq_true (by kernel_rfl))), bindO_some', bindO_some']
  exact ⟨_, rfl⟩

theorem sortFuncA_ok (l : HL) (h : l.length ≤ 12) : slices_SortFunc_impl_Hint_impl_Hint_A (l, ()) = some (isort ltT l) := by
  obtain ⟨z, hz⟩ := bitsLen_ok l.length h
  rw [slices_SortFunc_impl_Hint_impl_Hint_A_eq, lenL_eq, hz, bindO_some', slices_pdqsortCmpFunc_impl_Hint_A_eq, slices_pdqsortCmpFunc_impl_Hint_A.l2_eq, subI64 _ 0 (by omega) (by omega), iteB_leI, if_pos (by omega), sortA_l1 l l.length rfl h]
  rfl

theorem clone_ok (l : HL) (h : l.length ≤ 1048577) : impl_cloneHints l = some l := by
  rw [impl_cloneHints_eq, iteB_room, if_pos (by simp; rw [roomMax_eq]; omega)]
  rfl

theorem indexF_l2 (l : HL) (t : ByteArray) (hn : l.length ≤ 1048577) : ∀ (n i : Nat), i + n = l.length → (∀ j x, l[j]? = some x → j < i → x.1 ≠ t) →
    (∃ k x, slices_IndexFunc_impl_Hint_impl_Hint.l2 l t (l.length : Int) i = some ((k : Nat) : Int) ∧ l[k]? = some x ∧ x.1 = t) ∨ (slices_IndexFunc_impl_Hint_impl_Hint.l2 l t (l.length : Int) i = some (-1) ∧ ∀ x ∈ l, x.1 ≠ t)
  | 0, i, e, h => by
    rw [slices_IndexFunc_impl_Hint_impl_Hint.l2_eq, iteB_ltI, if_neg (by omega), slices_IndexFunc_impl_Hint_impl_Hint.j7_eq]
    refine .inr ⟨rfl, fun x hx => ?_⟩
    obtain ⟨j, hj⟩ := List.mem_iff_getElem?.1 hx
    exact h j x hj (by have := (List.getElem?_eq_some_iff.1 hj).1; omega)
  | n + 1, i, e, h => by
    obtain ⟨x, hx, _⟩ := drop_at (l := l) (i := i) (by omega)
    rw [slices_IndexFunc_impl_Hint_impl_Hint.l2_eq, iteB_ltI, if_pos (by omega), atL_nat, hx, bindO_some', impl_HintAdd_1_eq, bindO_some', iteB_eqS]
    by_cases ht : x.1 = t
    · rw [if_pos ht]; exact .inl ⟨i, x, rfl, hx, ht⟩
    · rw [if_neg ht, addI64 (i : Int) 1 (by omega) (by omega), show (i : Int) + 1 = ((i + 1 : Nat) : Int) by omega]
      exact indexF_l2 l t hn n (i + 1) (by omega) (fun j y hj hlt => by
        by_cases hji : j = i
        · subst hji; rw [hx] at hj; cases hj; exact ht
        · exact h j y hj (by omega))

/-- Hints that are ok. -/
theorem hintsB_iff (l : HL) : hintsB l = true ↔ (∀ x ∈ l, hintB x = true) ∧ l.Pairwise (fun x y => ltT x y = true) ∧ l.length ≤ 10 := by
  unfold hintsB
  rw [Bool.and_eq_true, List.all_eq_true, decide_eq_true_eq]
  constructor
  · rintro ⟨h, hl⟩
    have hat : ∀ i, i < l.length → hintAt l i = true := fun i hi => h i (by simp [List.mem_range']; omega)
    refine ⟨fun x hx => ?_, ?_, by omega⟩
    · obtain ⟨i, hi, rfl⟩ := List.getElem_of_mem hx
      have := hat i hi
      rw [hintAt_eq l i hi, Bool.and_eq_true] at this
      exact this.1
    · have adj : ∀ i (hi : i + 1 < l.length), ltT l[i] l[i + 1] = true := fun i hi => by
        have := hat (i + 1) hi
        rw [hintAt_eq l (i + 1) hi, Bool.and_eq_true] at this
        have h2 := this.2
        simp only [Nat.add_one_ne_zero, decide_false, Bool.false_or, Nat.add_sub_cancel] at h2
        rw [List.getElem?_eq_getElem (by omega)] at h2
        exact h2
      rw [List.pairwise_iff_getElem]
      intro i j hi hj hij
      obtain ⟨d, rfl⟩ : ∃ d, j = i + 1 + d := ⟨j - i - 1, by omega⟩
      induction d with
      | zero => exact adj i hj
      | succ d ih => exact ltT_trans _ _ _ (ih (by omega) (by omega)) (adj (i + 1 + d) hj)
  · rintro ⟨h1, h2, h3⟩
    refine ⟨fun i hi => ?_, by omega⟩
    have hi' : i < l.length := by simp [List.mem_range'] at hi; omega
    rw [hintAt_eq l i hi', h1 _ (List.getElem_mem hi')]
    by_cases h0 : i = 0
    · simp [h0]
    · rw [List.getElem?_eq_getElem (l := l) (i := i - 1) (by omega)]
      have := (List.pairwise_iff_getElem.1 h2) (i - 1) i (by omega) hi' (by omega)
      unfold ltT at this
      simp only [this, Bool.or_true, Bool.and_true]

/-- The place of a text among hints that are sorted. -/
def placeL (l : HL) (t : ByteArray) : Nat := (l.takeWhile (fun y => ltS y.1 t)).length

theorem place_le (l : HL) (t : ByteArray) : placeL l t ≤ l.length := (List.takeWhile_prefix _).length_le

theorem l9_l2 (l : HL) (t : ByteArray) (hn : l.length ≤ 1048577) : ∀ (n i : Nat), i + n = l.length → spec_l9Hint.l2 l t i = spec_l9Hint.j4 l t ((i + ((l.drop i).takeWhile (fun y => ltS y.1 t)).length : Nat) : Int)
  | 0, i, e => by
    rw [spec_l9Hint.l2_eq, iteB_ltI, lenL_eq, if_neg (by omega), List.drop_eq_nil_of_le (by omega)]; simp
  | n + 1, i, e => by
    obtain ⟨x, hx, hd⟩ := drop_at (l := l) (i := i) (by omega)
    rw [spec_l9Hint.l2_eq, iteB_ltI, lenL_eq, if_pos (by omega), atL_nat, hx, bindO_some', hd]
    cases hlt : ltS x.1 t with
    | true =>
      rw [iteB_t, addI64 (i : Int) 1 (by omega) (by omega), show (i : Int) + 1 = ((i + 1 : Nat) : Int) by omega, l9_l2 l t hn n (i + 1) (by omega)]
      simp only [List.takeWhile_cons, hlt, if_true, List.length_cons]
      congr 2; omega
    | false => rw [iteB_f]; simp [hlt]

theorem l9_ok (l : HL) (t : ByteArray) (hn : l.length ≤ 1048577) : spec_l9Hint (l, t) = some ((placeL l t : Int), match l[placeL l t]? with | some x => eqS x.1 t | none => false) := by
  rw [spec_l9Hint_eq]
  have := l9_l2 l t hn l.length 0 (by omega)
  rw [show ((0 : Nat) : Int) = 0 from rfl] at this
  rw [this]
  simp only [List.drop_zero, Nat.zero_add]
  rw [spec_l9Hint.j4_eq, iteB_ltI, lenL_eq]
  show (if ((placeL l t : Nat) : Int) < _ then _ else _) = _
  have e : (l.takeWhile (fun y => ltS y.1 t)).length = placeL l t := rfl
  rw [e]
  by_cases h : placeL l t < l.length
  · rw [if_pos (by omega), atL_nat, List.getElem?_eq_getElem h, bindO_some']
  · rw [if_neg (by omega), List.getElem?_eq_none (by omega)]
end Go.E

set_option linter.unusedVariables false
namespace Go.E
open Go

/-! Plain: adding a hint. -/

def insH (l : HL) (t : ByteArray) (w : Int) : HL := l.take (placeL l t) ++ (t, w) :: l.drop (placeL l t)

def addH (l : HL) (t : ByteArray) (w : Int) : HL × Bool :=
  if hintsB l = false then ([], false) else if hintB (t, w) = false then (l, false) else
  match l[placeL l t]? with
  | some x => if x.1 = t then (if x.2 + w ≤ 999999999 then (l.set (placeL l t) (t, x.2 + w), true) else (l, false)) else if 10 ≤ l.length then (l, false) else (insH l t w, true)
  | none => if 10 ≤ l.length then (l, false) else (insH l t w, true)

theorem hintB_range {x : ByteArray × Int} (h : hintB x = true) : 1 ≤ x.2 ∧ x.2 ≤ 999999999 := by
  unfold hintB at h; rw [Bool.and_eq_true, decide_eq_true_eq] at h; exact h.2

theorem sIns_ok (l : HL) (t : ByteArray) (w : Int) (hl : l.length ≤ 10) : spec_HintAdd.j100008 l t w (placeL l t : Int) = some (insH l t w, true) := by
  have hp := place_le l t
  have e1 : appL ([] : HL) (cutL l 0 (placeL l t : Int)) = l.take (placeL l t) := by unfold appL cutL; simp
  have e2 : cutL l (placeL l t : Int) (lenL l) = l.drop (placeL l t) := by unfold cutL lenL; simp
  rw [spec_HintAdd.j100008_eq, lenL_eq]
  simp only [iteB_okCut, iteB_room]
  have e3 : cutL l (placeL l t : Int) ((l.length : Nat) : Int) = l.drop (placeL l t) := e2
  rw [e1, e3]
  have e4 : (cutL l 0 (placeL l t : Int)).length ≤ 10 := by unfold cutL; simp; omega
  rw [if_pos (by omega), if_pos (by omega), if_pos (by simp only [List.length_nil]; rw [roomMax_eq]; omega), if_pos (by simp; rw [roomMax_eq]; omega), if_pos (by unfold appL; simp; rw [roomMax_eq]; omega)]
  unfold insH appL
  simp

theorem sAdd_ok (l : HL) (hl : Small l) (t : ByteArray) (ht : t.size ≤ 1048576) (w : Int) : spec_HintAdd (l, (t, w)) = some (addH l t w) := by
  rw [spec_HintAdd_eq, sHints_ok l hl, bindO_some', iteB_notB]
  unfold addH
  cases hB : hintsB l with
  | false => rfl
  | true =>
    have h10 := ((hintsB_iff l).1 hB).2.2
    have hall := ((hintsB_iff l).1 hB).1
    have e0 : appL ([] : HL) l = l := rfl
    rw [iteB_t, iteB_room, if_pos (by simp; rw [roomMax_eq]; omega), l9_ok l t (by omega), bindO_some', sHintT_ok t ht, bindO_some', iteB_notB, e0]
    simp only [Bool.true_eq_false, if_false]
    by_cases hT : hintT t = true
    rotate_left
    · have hT' : hintT t = false := by simpa using hT
      have hH : hintB (t, w) = false := by unfold hintB; simp [hT']
      rw [hT', if_pos hH]; rfl
    · rw [hT, iteB_t, l1In_ok, bindO_some', iteB_notB]
      by_cases hw : 1 ≤ w ∧ w ≤ 999999999
      rotate_left
      · have hH : hintB (t, w) = false := by unfold hintB; rw [decide_eq_false hw]; simp
        rw [decide_eq_false hw, if_pos hH]; rfl
      have hH : hintB (t, w) = true := by unfold hintB; rw [hT, decide_eq_true hw]; rfl
      rw [decide_eq_true hw, iteB_t, if_neg (by rw [hH]; simp)]
      have ins : (iteB (leI 10 (lenL l)) (some (l, false)) (spec_HintAdd.j100008 l t w (placeL l t : Int))) = some (if 10 ≤ l.length then (l, false) else (insH l t w, true)) := by
        rw [iteB_leI, lenL_eq]
        by_cases h : 10 ≤ l.length
        · rw [if_pos (by omega), if_pos h]
        · rw [if_neg (by omega), if_neg h, sIns_ok l t w h10]
      cases hk : l[placeL l t]? with
      | none =>
        simp only [iteB_notB, iteB_f]
        exact ins
      | some x =>
        by_cases hx : x.1 = t
        · have e1 : eqS x.1 t = true := decide_eq_true hx
          have hxr := hintB_range (hall x (List.mem_of_getElem? hk))
          have hlt := (List.getElem?_eq_some_iff.1 hk).1
          simp only [e1, iteB_notB, iteB_t, atL_nat, hk, bindO_some', iteB_leI, iteB_ltI, lenL_eq]
          rw [addI64 x.2 w (by omega) (by omega), if_pos hx]
          by_cases hs : x.2 + w ≤ 999999999
          · rw [if_neg (by omega), if_pos (by omega), if_pos (by omega), if_pos hs]
            unfold setL
            rw [Int.toNat_natCast, hx]
          · rw [if_pos (by omega), if_neg hs]
        · have e1 : eqS x.1 t = false := decide_eq_false hx
          simp only [e1, iteB_notB, iteB_f]
          rw [if_neg hx]
          exact ins

theorem place_here {l : HL} (hs : l.Pairwise (fun x y => ltT x y = true)) {t : ByteArray} {i : Nat} {x : ByteArray × Int} (hx : l[i]? = some x) (ht : x.1 = t) : placeL l t = i := by
  have hi := (List.getElem?_eq_some_iff.1 hx).1
  have hxe : l[i] = x := by rw [List.getElem?_eq_getElem hi] at hx; exact Option.some.inj hx
  have e : l = l.take i ++ x :: l.drop (i + 1) := by
    rw [← hxe, ← List.drop_eq_getElem_cons hi, List.take_append_drop]
  have hlt : ∀ z ∈ l.take i, ltS z.1 t = true := fun z hz => by
    obtain ⟨j, hj, rfl⟩ := List.getElem_of_mem hz
    rw [List.length_take] at hj
    have := (List.pairwise_iff_getElem.1 hs) j i (by omega) hi (by omega)
    rw [List.getElem_take]
    unfold ltT at this
    rw [hxe, ht] at this; exact this
  unfold placeL
  rw [e, List.takeWhile_append_of_pos hlt]
  have : ltS x.1 t = false := by rw [ht]; exact ltS_irrefl t
  simp [this]; omega

theorem set_sorted {l : HL} (hs : l.Pairwise (fun x y => ltT x y = true)) {i : Nat} {x : ByteArray × Int} (hx : l[i]? = some x) (v : Int) : (l.set i (x.1, v)).Pairwise (fun x y => ltT x y = true) := by
  have hi := (List.getElem?_eq_some_iff.1 hx).1
  have hxe : l[i] = x := by rw [List.getElem?_eq_getElem hi] at hx; exact Option.some.inj hx
  rw [List.pairwise_iff_getElem] at hs ⊢
  intro a b ha hb hab
  rw [List.length_set] at ha hb
  have := hs a b ha hb hab
  unfold ltT at this ⊢
  rw [List.getElem_set, List.getElem_set]
  split <;> split
  · omega
  · rename_i h1 h2; subst h1; rw [hxe] at this; exact this
  · rename_i h1 h2; subst h2; rw [hxe] at this; exact this
  · exact this

theorem ins_sorted {l : HL} (hs : l.Pairwise (fun x y => ltT x y = true)) {t : ByteArray} (w : Int) (hn : ∀ x ∈ l, x.1 ≠ t) : isort ltT (l ++ [(t, w)]) = insH l t w ∧ (insH l t w).Pairwise (fun x y => ltT x y = true) := by
  have h1 : isort ltT (l ++ [(t, w)]) = (insR ltT (t, w) l.reverse).reverse := by
    unfold isort
    rw [List.foldl_append, foldl_sorted ltT_asym l [] hs (fun y hy => by simp at hy)]
    simp
  have h2 := ins_take ltT_asym ltT_trans (x := (t, w)) l.reverse (fun y hy h => ltS_ne (fun e => hn y (by simpa using hy) e.symm) h) (by simpa using hs)
  rw [List.reverse_reverse] at h2
  have h3 : l.takeWhile (fun y => ltT y (t, w)) = l.take (placeL l t) := (List.prefix_iff_eq_take.1 (List.takeWhile_prefix _))
  have h4 : l.dropWhile (fun y => ltT y (t, w)) = l.drop (placeL l t) := by
    have := List.takeWhile_append_dropWhile (p := fun y => ltT y (t, w)) (l := l)
    rw [h3] at this
    have h5 := List.take_append_drop (placeL l t) l
    exact List.append_cancel_left (this.trans h5.symm)
  refine ⟨by rw [h1, h2, h3, h4]; rfl, ?_⟩
  unfold insH
  rw [List.pairwise_append, List.pairwise_cons]
  have hs' := hs
  rw [← List.take_append_drop (placeL l t) l, List.pairwise_append] at hs'
  have before : ∀ z ∈ l.take (placeL l t), ltS z.1 t = true := fun z hz => by
    rw [← h3] at hz
    exact List.all_eq_true.1 (List.all_takeWhile (l := l) (p := fun y => ltT y (t, w))) z hz
  have behind : ∀ z ∈ l.drop (placeL l t), ltS t z.1 = true := fun z hz => by
    cases hd : l.drop (placeL l t) with
    | nil => rw [hd] at hz; cases hz
    | cons y r =>
      have hy : ltS y.1 t = false := by
        have h6 : (l.dropWhile (fun y => ltT y (t, w))).head? = some y := by rw [h4, hd]; rfl
        have := List.head?_dropWhile_not (fun y : ByteArray × Int => ltT y (t, w)) l
        rw [h6] at this
        simpa [ltT] using this
      have hym : y ∈ l := List.mem_of_mem_drop (i := placeL l t) (by rw [hd]; simp)
      have hty : ltS t y.1 = true := ltS_ne (hn y hym) hy
      rw [hd] at hz hs'
      rcases List.mem_cons.1 hz with rfl | hz
      · exact hty
      · exact ltS_trans hty ((List.pairwise_cons.1 hs'.2.1).1 z hz)
  refine ⟨hs'.1, ⟨fun z hz => behind z hz, hs'.2.1⟩, fun a ha b hb => ?_⟩
  rcases List.mem_cons.1 hb with rfl | hb
  · exact before a ha
  · exact hs'.2.2 a ha b hb

theorem iAdd_ok (l : HL) (hl : Small l) (t : ByteArray) (ht : t.size ≤ 1048576) (w : Int) : impl_HintAdd (l, (t, w)) = some (addH l t w) := by
  rw [impl_HintAdd_eq, iHints_ok l hl, bindO_some', iteB_notB]
  unfold addH
  cases hB : hintsB l with
  | false => rfl
  | true =>
    obtain ⟨hall, hs, h10⟩ := (hintsB_iff l).1 hB
    rw [iteB_t, clone_ok l (by omega), bindO_some', iHint_ok (t, w) ht, bindO_some', iteB_notB]
    simp only [Bool.true_eq_false, if_false]
    cases hT : hintB (t, w) with
    | false => rfl
    | true =>
      have hwr := hintB_range hT
      rw [iteB_t, slices_IndexFunc_impl_Hint_impl_Hint_eq, lenL_eq]
      simp only [Bool.true_eq_false, if_false]
      have small : ∀ m : HL, m.length ≤ 12 → (∀ x ∈ m, x.1.size ≤ 1048576) → Small m := fun m h1 h2 => ⟨by omega, h2⟩
      rcases indexF_l2 l t (by omega) l.length 0 (by omega) (fun j x _ h => by omega) with ⟨k, x, h1, h2, h3⟩ | ⟨h1, h2⟩
      · have hk := place_here hs h2 h3
        have hlt := (List.getElem?_eq_some_iff.1 h2).1
        have hxr := hintB_range (hall x (List.mem_of_getElem? h2))
        rw [show ((0 : Nat) : Int) = 0 from rfl] at h1
        rw [h1, bindO_some', hk, h2]
        simp only [iteB_leI, iteB_ltI, atL_nat, h2, bindO_some']
        rw [if_pos (by omega), if_pos (by omega), if_pos (by omega), if_pos (by omega), if_pos (by omega), addI64 x.2 w (by omega) (by omega), impl_HintAdd.j10_eq, if_pos h3]
        have hset : setL l (k : Int) (x.1, x.2 + w) = l.set k (x.1, x.2 + w) := by unfold setL; rw [Int.toNat_natCast]
        have hsort := set_sorted hs h2 (x.2 + w)
        have hsl : (l.set k (x.1, x.2 + w)).length = l.length := by simp
        have hmem : ∀ z ∈ l.set k (x.1, x.2 + w), z ∈ l ∨ z = (x.1, x.2 + w) := fun z hz => List.mem_or_eq_of_mem_set hz
        rw [hset, sortFuncA_ok _ (by omega), bindO_some', isort_sorted ltT_asym hsort, iHints_ok _ (small _ (by omega) (fun z hz => by
          rcases hmem z hz with h | rfl
          · exact hl.2 z h
          · rw [h3]; exact ht)), bindO_some', iteB_notB, clone_ok l (by omega), clone_ok _ (by omega)]
        simp only [bindO_some']
        by_cases hw : x.2 + w ≤ 999999999
        · have : hintsB (l.set k (x.1, x.2 + w)) = true := (hintsB_iff _).2 ⟨fun z hz => by
            rcases hmem z hz with h | rfl
            · exact hall z h
            · have hx := hall x (List.mem_of_getElem? h2)
              unfold hintB at hx ⊢
              rw [Bool.and_eq_true] at hx ⊢
              exact ⟨hx.1, decide_eq_true ⟨by have := hwr.1; simp only at this ⊢; omega, by simpa using hw⟩⟩, hsort, by omega⟩
          rw [this, iteB_t, if_pos hw, h3]
        · have : hintsB (l.set k (x.1, x.2 + w)) = false := by
            cases hc : hintsB (l.set k (x.1, x.2 + w)) with
            | false => rfl
            | true =>
              have := ((hintsB_iff _).1 hc).1 (x.1, x.2 + w) (List.mem_set hlt _)
              have := hintB_range this
              exact absurd this.2 hw
          rw [this, iteB_f, if_neg hw]
      · rw [show ((0 : Nat) : Int) = 0 from rfl] at h1
        rw [h1, bindO_some']
        simp only [iteB_leI, iteB_room]
        obtain ⟨h3, h4⟩ := ins_sorted hs w h2
        have hil : (insH l t w).length = l.length + 1 := by
          unfold insH; simp [List.length_append]; have := place_le l t; omega
        have hmem : ∀ z ∈ insH l t w, z ∈ l ∨ z = (t, w) := fun z hz => by
          unfold insH at hz
          rcases List.mem_append.1 hz with h | h
          · exact .inl (List.mem_of_mem_take h)
          · rcases List.mem_cons.1 h with rfl | h
            · exact .inr rfl
            · exact .inl (List.mem_of_mem_drop h)
        rw [if_neg (by omega), if_pos (by simp; rw [roomMax_eq]; omega), impl_HintAdd.j10_eq]
        have e : appL l [(t, w)] = l ++ [(t, w)] := rfl
        rw [e, sortFuncA_ok _ (by simp; omega), bindO_some', h3, iHints_ok _ (small _ (by omega) (fun z hz => by
          rcases hmem z hz with h | rfl
          · exact hl.2 z h
          · exact ht)), bindO_some', iteB_notB, clone_ok l (by omega), clone_ok _ (by omega)]
        simp only [bindO_some']
        have hR : (match l[placeL l t]? with
            | some x => if x.1 = t then (if x.2 + w ≤ 999999999 then (l.set (placeL l t) (t, x.2 + w), true) else (l, false)) else if 10 ≤ l.length then (l, false) else (insH l t w, true)
            | none => if 10 ≤ l.length then (l, false) else (insH l t w, true)) = if 10 ≤ l.length then (l, false) else (insH l t w, true) := by
          split
          · rename_i x hx; rw [if_neg (h2 x (List.mem_of_getElem? hx))]
          · rfl
        rw [hR]
        by_cases h : 10 ≤ l.length
        · have : hintsB (insH l t w) = false := by
            cases hc : hintsB (insH l t w) with
            | false => rfl
            | true => have := ((hintsB_iff _).1 hc).2.2; omega
          rw [this, iteB_f, if_pos h]
        · have : hintsB (insH l t w) = true := (hintsB_iff _).2 ⟨fun z hz => by
            rcases hmem z hz with h | rfl
            · exact hall z h
            · exact hT, h4, by omega⟩
          rw [this, iteB_t, if_neg h]
end Go.E

set_option linter.unusedVariables false
namespace Go.E
open Go

/-! Plain: the law 'FnExactHintAdd'. -/

theorem markT_l4 : ∀ (n k : Nat) (out : ByteArray), k ≤ n → out.size + k ≤ 1000000000 → ∃ s, laws_markText.l4 (k : Int) out = some s
  | 0, k, out, hn, hs => by
    rw [laws_markText.l4_eq, iteB_ltI, if_neg (by omega), laws_markText.j7_eq, iteB_roomS, if_pos (by have : (bs [109]).size = 1 := rfl; rw [this, roomMax_eq]; omega)]
    exact ⟨_, rfl⟩
  | n + 1, k, out, hn, hs => by
    by_cases h0 : 0 < k
    · rw [laws_markText.l4_eq, iteB_ltI, if_pos (by omega)]
      simp only [iteB_eqI, iteB_roomS]
      have e1 : ∀ c : Int, (strOf [c]).size = 1 := fun c => rfl
      have ed : divI Go.IntKind.i64 (k : Int) 10 = ((k / 10 : Nat) : Int) := by
        unfold divI
        have : Int.tdiv (k : Int) 10 = ((k / 10 : Nat) : Int) := rfl
        rw [this]
        exact IntWalk.i64_in _ ⟨by omega, by omega⟩
      rw [if_neg (by omega), if_pos (by rw [e1, roomMax_eq]; omega), if_neg (by omega), ed]
      refine markT_l4 n (k / 10) _ (by omega) ?_
      have : ∀ c, (catS (strOf [c]) out).size = 1 + out.size := fun c => by
        rw [← toL_len, toL_cat, List.length_append, toL_len, toL_len, e1]
      rw [this]; omega
    · rw [laws_markText.l4_eq, iteB_ltI, if_neg (by omega), laws_markText.j7_eq, iteB_roomS, if_pos (by have : (bs [109]).size = 1 := rfl; rw [this, roomMax_eq]; omega)]
      exact ⟨_, rfl⟩

noncomputable def mkT (k : Int) : ByteArray := (laws_markText k).getD ⟨#[]⟩
theorem markT_ok (k : Int) (h : k ≤ 1000000000) : laws_markText k = some (mkT k) := by
  have : ∃ s, laws_markText k = some s := by
    rw [laws_markText_eq, iteB_leI]
    split
    · exact ⟨_, rfl⟩
    · obtain ⟨n, rfl⟩ : ∃ n : Nat, k = (n : Int) := ⟨k.toNat, by omega⟩
      exact markT_l4 n n (bs []) (Nat.le_refl _) (by have : (bs []).size = 0 := rfl; rw [this]; omega)
  obtain ⟨s, hs⟩ := this
  unfold mkT; rw [hs]; rfl

noncomputable def mkL : Int → HL → HL
  | _, [] => []
  | k, _ :: r => (mkT k, k + 1) :: mkL (k + 2) r
theorem mkL_len : ∀ (l : HL) (k : Int), (mkL k l).length = l.length
  | [], _ => rfl
  | _ :: r, k => by simp only [mkL, List.length_cons, mkL_len r]

theorem markH_l2 : ∀ (r A : HL) (k : Int), 0 ≤ k → k + 2 * (r.length : Int) ≤ 1000000000 → A.length + r.length ≤ 100000000 → laws_markHintS.l2 k (A.length : Int) (A ++ r) = some (k + 2 * (r.length : Int), A ++ mkL k r)
  | [], A, k, h0, h1, h2 => by
    rw [laws_markHintS.l2_eq, iteB_ltI, lenL_eq, if_neg (by simp), laws_markHintS.j8_eq]; simp [mkL]
  | x :: r, A, k, h0, h1, h2 => by
    simp only [List.length_cons] at h1 h2
    have hat : (A ++ x :: r)[A.length]? = some x := mid
    have hs : ∀ v, setL (A ++ x :: r) (A.length : Int) v = A ++ v :: r := fun v => by
      unfold setL; rw [Int.toNat_natCast, List.set_append_right _ _ (Nat.le_refl _)]; simp
    have hs2 : ∀ u v : ByteArray × Int, setL (A ++ u :: r) (A.length : Int) v = A ++ v :: r := fun u v => by
      unfold setL; rw [Int.toNat_natCast, List.set_append_right _ _ (Nat.le_refl _)]; simp
    rw [laws_markHintS.l2_eq, iteB_ltI, lenL_eq, if_pos (by simp; omega), markT_ok k (by omega), bindO_some']
    simp only [iteB_leI, iteB_ltI, lenL_eq, atL_nat, hat, bindO_some', hs]
    have hat2 : (A ++ (mkT k, x.2) :: r)[A.length]? = some (mkT k, x.2) := mid
    rw [if_pos (by omega), if_pos (by simp; omega), if_pos (by omega), if_pos (by simp; omega), hat2, bindO_some', hs2, addI64 k 1 (by omega) (by omega), addI64 (k + 1) 1 (by omega) (by omega), addI64 (A.length : Int) 1 (by omega) (by omega)]
    have e : (A.length : Int) + 1 = (((A ++ [(mkT k, k + 1)]).length : Nat) : Int) := by simp
    have e2 : A ++ (mkT k, k + 1) :: r = (A ++ [(mkT k, k + 1)]) ++ r := by simp
    rw [e, e2, show k + 1 + 1 = k + 2 by omega, markH_l2 r _ (k + 2) (by omega) (by omega) (by simp; omega)]
    simp only [mkL, List.length_cons, List.append_assoc, List.singleton_append]
    congr 2
    omega

theorem markH_ok (l : HL) (h : l.length ≤ 100000000) : laws_markHintS (l, 1) = some (1 + 2 * (l.length : Int), mkL 1 l) := by
  rw [laws_markHintS_eq]
  exact markH_l2 l [] 1 (by omega) (by omega) (by simpa using h)

theorem heldH_l2 : ∀ (r A : HL) (k : Int), 0 ≤ k → k + 2 * (r.length : Int) ≤ 1000000000 → A.length + r.length ≤ 100000000 → laws_heldHintS.l2 (A ++ mkL k r) k (A.length : Int) = some (k + 2 * (r.length : Int))
  | [], A, k, h0, h1, h2 => by
    rw [laws_heldHintS.l2_eq, iteB_ltI, lenL_eq, if_neg (by simp [mkL]), laws_heldHintS.j10_eq]; simp
  | x :: r, A, k, h0, h1, h2 => by
    simp only [List.length_cons] at h1 h2
    simp only [mkL]
    have hat : (A ++ (mkT k, k + 1) :: mkL (k + 2) r)[A.length]? = some (mkT k, k + 1) := mid
    have e2 : A ++ (mkT k, k + 1) :: mkL (k + 2) r = (A ++ [(mkT k, k + 1)]) ++ mkL (k + 2) r := by simp
    have e : (A.length : Int) + 1 = (((A ++ [(mkT k, k + 1)]).length : Nat) : Int) := by simp
    rw [laws_heldHintS.l2_eq, iteB_ltI, lenL_eq, if_pos (by simp; omega)]
    simp only [atL_nat, hat, bindO_some', markT_ok k (by omega : k ≤ 1000000000), iteB_notB, iteB_eqS, iteB_eqI]
    rw [if_pos trivial, addI64 k 1 (by omega) (by omega), if_pos rfl, addI64 (k + 1) 1 (by omega) (by omega), addI64 (A.length : Int) 1 (by omega) (by omega), e, e2, show k + 1 + 1 = k + 2 by omega, heldH_l2 r _ (k + 2) (by omega) (by omega) (by simp; omega)]
    simp only [List.length_cons]
    congr 1
    omega

theorem heldH_ok (l : HL) (h : l.length ≤ 100000000) : laws_heldHintS (mkL 1 l, 1) = some (1 + 2 * (l.length : Int)) := by
  rw [laws_heldHintS_eq]
  exact heldH_l2 l [] 1 (by omega) (by omega) (by simpa using h)

theorem addH_len (l : HL) (t : ByteArray) (w : Int) : (addH l t w).1.length ≤ 10 := by
  unfold addH
  split
  · simp
  · rename_i hB
    have h10 := ((hintsB_iff l).1 (by simpa using hB)).2.2
    have hi : ¬ 10 ≤ l.length → (insH l t w).length ≤ 10 := fun h => by
      unfold insH; simp; have := place_le l t; omega
    split
    · exact h10
    · split
      · split
        · split
          · simpa using h10
          · exact h10
        · split
          · exact h10
          · exact hi (by assumption)
      · split
        · exact h10
        · exact hi (by assumption)

theorem eqBo_self (b : Bool) : eqBo b b = true := by cases b <;> rfl

/-- The law, of all arguments. -/
theorem exactHintAdd (l : HL) (t : ByteArray) (w : Int) (hg : ∀ x ∈ l, x.1.size ≤ 9223372036854775807) (hn : l.length ≤ 9223372036854775807) : laws_FnExactHintAdd (l, (t, w)) = some true := by
  rw [laws_FnExactHintAdd_eq, iteB_ltI, lenS_eq]
  by_cases htb : (1048576 : Int) < (t.size : Int)
  · rw [if_pos htb]
  · rw [if_neg htb]
    obtain ⟨v, h1, h2⟩ := szHintS_ok l hg hn
    rw [h1, bindO_some', iteB_ltI]
    by_cases hv : v < 0
    · rw [if_pos hv]
    · have hs := h2 (by omega)
      have ht : t.size ≤ 1048576 := by omega
      have hl := addH_len l t w
      have e1 := eqHintS_ok (addH l t w).1 (by omega)
      have hp : ¬ (1 + 2 * (((addH l t w).1.length : Nat) : Int) < 0) := by omega
      have hp2 : ¬ (1 + 2 * ((l.length : Nat) : Int) < 0) := by omega
      rw [if_neg hv]
      simp only [toHintS_ok l hs.1, bindO_some', sAdd_ok l hs t ht w, iAdd_ok l hs t ht w, e1, eqHintS_ok l hs.1, eqBo_self, iteB_notB, iteB_t, markH_ok l (by have := hs.1; omega), markH_ok (addH l t w).1 (by omega),
        heldH_ok (addH l t w).1 (by omega), iteB_ltI, hp, hp2, if_false, iteB_eqI, if_true]

theorem exactHintAdd' (l : HL) (t : ByteArray) (w : Int) (hg : Good' (.sl (.pr .str (.int .i64))) l) (h2 : Good' .str t) (h3 : Good' (.int .i64) w) : laws_FnExactHintAdd (l, (t, w)) = some true := by
  obtain ⟨h1, h2⟩ := hg
  have hm : maxLen = 9223372036854775807 := by decide
  rw [hm] at h1
  refine exactHintAdd l t w (fun x hx => ?_) h1
  have h3 : x.1.size ≤ maxLen := (h2 x hx).1
  rw [hm] at h3; exact h3
end Go.E

set_option linter.unusedVariables false
namespace Go.E
open Go

/-! Plain: hints that begin so, the heaviest first; the law 'FnExactHintFind'. -/

def ltF (x y : ByteArray × Int) : Bool := decide (y.2 < x.2) || (decide (x.2 = y.2) && ltS x.1 y.1)
def ltW (x y : ByteArray × Int) : Bool := decide (y.2 < x.2)

theorem cmpI_ok (a b : Int) : cmp_Compare_int (a, b) = some (if a < b then -1 else if b < a then 1 else 0) := by
  rw [cmp_Compare_int_eq, cmp_isNaN_int_eq, cmp_isNaN_int_eq]
  simp only [bindO_some']
  have e : ∀ x : Int, notB (eqI x x) = false := fun x => by simp [notB, eqI]
  rw [e, e, iteB_f, iteB_f, iteB_ltI, iteB_ltI]
  split
  · rfl
  · split <;> rfl

theorem or2_ok (a b : Int) : cmp_Or_int [a, b] = some (if a = 0 then b else a) := by
  rw [cmp_Or_int_eq, lenL_eq, cmp_Or_int.l3_eq, iteB_ltI, if_pos (by simp)]
  have e0 : atL [a, b] 0 = some a := rfl
  have e1 : atL [a, b] 1 = some b := rfl
  rw [e0, bindO_some', iteB_notB, iteB_eqI, addI64 0 1 (by omega) (by omega)]
  by_cases h : a = 0
  · rw [if_pos h, if_pos h, show (0 : Int) + 1 = 1 from rfl, cmp_Or_int.l3_eq, iteB_ltI, if_pos (by simp), e1, bindO_some', iteB_notB, iteB_eqI, addI64 1 1 (by omega) (by omega)]
    by_cases k : b = 0
    · rw [if_pos k, cmp_Or_int.l3_eq, iteB_ltI, if_neg (by simp), cmp_Or_int.j8_eq, k]
    · rw [if_neg k]
  · rw [if_neg h, if_neg h]

theorem hintFind1_ok (x y : ByteArray × Int) : ∃ c, impl_HintFind_1 (x, y) = some c ∧ (ltI c 0 = ltF x y) := by
  rw [impl_HintFind_1_eq, cmpI_ok, bindO_some', cmpS_ok, bindO_some', or2_ok, bindO_some']
  refine ⟨_, rfl, ?_⟩
  unfold ltF ltI
  by_cases h1 : y.2 < x.2
  · simp [h1]
  · by_cases h2 : x.2 < y.2
    · have h3 : ¬ x.2 = y.2 := by omega
      simp [h1, h2, h3]
    · have h3 : x.2 = y.2 := by omega
      have e1 : ¬ y.2 < y.2 := by omega
      rw [h3]
      simp only [e1, if_false, if_true, decide_false, Bool.false_or, decide_true, Bool.true_and]
      cases h4 : ltS x.1 y.1 with
      | true => simp
      | false => cases h5 : ltS y.1 x.1 <;> simp

theorem sortF_l1 (l : HL) (n : Nat) (hn : l.length = n) (h12 : n ≤ 12) : slices_insertionSortCmpFunc_impl_Hint_F (l, (0, ((n : Int), ()))) = some (isort ltF l) := by
  rw [slices_insertionSortCmpFunc_impl_Hint_F_eq, addI64 0 1 (by omega) (by omega)]
  cases l with
  | nil =>
    simp at hn; subst hn
    rw [slices_insertionSortCmpFunc_impl_Hint_F.l1_eq, iteB_ltI, if_neg (by omega)]; rfl
  | cons x l =>
    have key := sort_loop (F1 := fun i m => slices_insertionSortCmpFunc_impl_Hint_F.l1 0 (n : Int) i m) (lt := ltF) (fin := fun m => some m) (n := n)
      (fun m hm => by
        rw [slices_insertionSortCmpFunc_impl_Hint_F.l1_eq, iteB_ltI, if_neg (by omega)])
      (fun Ar x B hm => ?_) l [x] (by simpa using hn)
    · simp only [List.length_cons, List.length_nil, List.reverse_cons, List.reverse_nil, List.nil_append, List.singleton_append] at key
      have : ((0 + 1 : Nat) : Int) = 0 + 1 := rfl
      rw [this] at key
      rw [key]
      rfl
    · have hlt : Ar.length < n := by simp at hm; omega
      rw [slices_insertionSortCmpFunc_impl_Hint_F.l1_eq, iteB_ltI, if_pos (by omega)]
      refine ins_loop (F := fun j m => slices_insertionSortCmpFunc_impl_Hint_F.l4 0 (n : Int) (Ar.length : Int) j m) (lt := ltF) (fin := fun m => slices_insertionSortCmpFunc_impl_Hint_F.l1 0 (n : Int) ((Ar.length + 1 : Nat) : Int) m) (n := n) ?_ ?_ Ar x B hm
      · intro m hm h0
        rw [slices_insertionSortCmpFunc_impl_Hint_F.l4_eq, iteB_ltI, if_neg (by omega), slices_insertionSortCmpFunc_impl_Hint_F.j2_eq, addI64 (Ar.length : Int) 1 (by omega) (by omega)]
        rfl
      · intro j m u v hm hj hu hv
        obtain ⟨c, hc1, hc2⟩ := hintFind1_ok u v
        have es : subI Go.IntKind.i64 ((j + 1 : Nat) : Int) 1 = (j : Int) := by rw [subI64 _ 1 (by omega) (by omega)]; omega
        have hset : (setL m ((j + 1 : Nat) : Int) v)[j]? = some v := by
          unfold setL; rw [Int.toNat_natCast, List.getElem?_set_ne (by omega)]; exact hv
        rw [slices_insertionSortCmpFunc_impl_Hint_F.l4_eq]
        simp only [es, iteB_ltI, iteB_leI, lenL_eq, atL_nat, hu, hv, bindO_some', hc1]
        have hsl : (setL m ((j + 1 : Nat) : Int) v).length = m.length := by unfold setL; simp
        rw [if_pos (by omega), if_pos (by omega), if_pos (by omega), if_pos (by omega), if_pos (by omega)]
        have hc3 : (c < 0) = (ltF u v = true) := by
          rw [← hc2]; unfold ltI; simp
        simp only [hc3]
        split
        · rw [if_pos (by omega), if_pos (by omega), if_pos (by omega), if_pos (by omega), if_pos (by omega), if_pos (by omega), if_pos (by omega), if_pos (by rw [hsl]; omega), hset, bindO_some']
          unfold setL
          simp only [Int.toNat_natCast]
        · rw [slices_insertionSortCmpFunc_impl_Hint_F.j2_eq, addI64 (Ar.length : Int) 1 (by omega) (by omega)]
          rfl

theorem sortFuncF_ok (l : HL) (h : l.length ≤ 12) : slices_SortFunc_impl_Hint_impl_Hint_F (l, ()) = some (isort ltF l) := by
  obtain ⟨z, hz⟩ := bitsLen_ok l.length h
  rw [slices_SortFunc_impl_Hint_impl_Hint_F_eq, lenL_eq, hz, bindO_some', slices_pdqsortCmpFunc_impl_Hint_F_eq, slices_pdqsortCmpFunc_impl_Hint_F.l2_eq, subI64 _ 0 (by omega) (by omega), iteB_leI, if_pos (by omega), sortF_l1 l l.length rfl h]
  rfl

def prefB (b : ByteArray) (x : ByteArray × Int) : Bool := decide (lenS b ≤ lenS x.1) && eqS (cutS x.1 0 (lenS b)) b

theorem begins_ok (s b : ByteArray) (v : Int) : spec_l4Begins (s, b) = some (prefB b (s, v)) := by
  rw [spec_l4Begins_eq, iteB_leI, iteB_okCut]
  unfold prefB
  by_cases h : lenS b ≤ lenS s
  · rw [if_pos h, if_pos ⟨by omega, by unfold lenS; omega, h⟩, decide_eq_true h]; rfl
  · rw [if_neg h, decide_eq_false h]; rfl

theorem hasPrefix_ok (s b : ByteArray) (v : Int) : strings_HasPrefix (s, b) = some (prefB b (s, v)) := by
  rw [strings_HasPrefix_eq, internal_stringslite_HasPrefix_eq, iteB_leI, iteB_okCut]
  unfold prefB
  by_cases h : lenS b ≤ lenS s
  · rw [if_pos h, if_pos ⟨by omega, by unfold lenS; omega, h⟩, decide_eq_true h]; rfl
  · rw [if_neg h, decide_eq_false h]; rfl

theorem insR_congr {α : Type} {lt lt' : α → α → Bool} {x : α} : ∀ l : List α, (∀ y ∈ l, lt x y = lt' x y) → insR lt x l = insR lt' x l
  | [], _ => rfl
  | y :: ys, h => by
    simp only [insR]
    rw [h y (by simp), insR_congr ys (fun z hz => h z (by simp [hz]))]

theorem insR_mem {α : Type} {lt : α → α → Bool} {x z : α} : ∀ l : List α, z ∈ insR lt x l → z = x ∨ z ∈ l
  | [], h => by simpa [insR] using h
  | y :: ys, h => by
    simp only [insR] at h
    split at h
    · rcases List.mem_cons.1 h with rfl | h
      · exact .inr (by simp)
      · rcases insR_mem ys h with h | h
        · exact .inl h
        · exact .inr (by simp [h])
    · rcases List.mem_cons.1 h with rfl | h
      · exact .inl rfl
      · exact .inr h

/-- Where the texts ascend, the weights alone tell. -/
theorem fold_FW : ∀ (l acc : HL), l.Pairwise (fun x y => ltT x y = true) → (∀ y ∈ acc, ∀ x ∈ l, ltT y x = true) → l.foldl (fun acc x => insR ltF x acc) acc = l.foldl (fun acc x => insR ltW x acc) acc
  | [], acc, _, _ => rfl
  | x :: l, acc, h, ha => by
    have e : insR ltF x acc = insR ltW x acc := insR_congr acc (fun y hy => by
      have h1 := ha y hy x (by simp)
      have h2 : ltS x.1 y.1 = false := ltS_asym h1
      unfold ltF ltW; rw [h2]; simp)
    rw [List.foldl_cons, List.foldl_cons, e]
    refine fold_FW l _ (List.pairwise_cons.1 h).2 (fun y hy z hz => ?_)
    rcases insR_mem acc hy with rfl | hy
    · exact (List.pairwise_cons.1 h).1 z hz
    · exact ha y hy z (by simp [hz])

theorem isort_FW {l : HL} (h : l.Pairwise (fun x y => ltT x y = true)) : isort ltF l = isort ltW l := by
  unfold isort; rw [fold_FW l [] h (fun y hy => by cases hy)]

theorem fold_len {α : Type} (lt : α → α → Bool) : ∀ (l acc : List α), (l.foldl (fun acc x => insR lt x acc) acc).length = acc.length + l.length
  | [], acc => rfl
  | x :: l, acc => by rw [List.foldl_cons, fold_len lt l, insR_len, List.length_cons]; omega
theorem isort_len {α : Type} (lt : α → α → Bool) (l : List α) : (isort lt l).length = l.length := by
  unfold isort; rw [List.length_reverse, fold_len]; simp

def findH (l : HL) (b : ByteArray) (many : Int) : HL :=
  if hintsB l = false then [] else if many < 0 then [] else (isort ltW (l.filter (prefB b))).take many.toNat

theorem iFind_l5 (l : HL) (b : ByteArray) (many : Int) (hl : l.length ≤ 10) (hm : 0 ≤ many) (hs : l.Pairwise (fun x y => ltT x y = true)) : ∀ (n i : Nat) (acc : HL), i + n = l.length → acc.length ≤ i → acc = (l.take i).filter (prefB b) →
    impl_HintFind.l5 b many l (l.length : Int) i acc = some ((isort ltW (l.filter (prefB b))).take many.toNat)
  | 0, i, acc, e, ha, hacc => by
    have hf : acc = l.filter (prefB b) := by rw [hacc, List.take_of_length_le (by omega)]
    have hfl : (l.filter (prefB b)).length ≤ l.length := List.length_filter_le _ _
    rw [impl_HintFind.l5_eq, iteB_ltI, if_neg (by omega), impl_HintFind.j10_eq, hf, sortFuncF_ok _ (by omega), bindO_some', isort_FW (hs.filter _), iteB_okCut]
    have hil := isort_len ltW (l.filter (prefB b))
    have hmin : 0 ≤ minI many (lenL (isort ltW (l.filter (prefB b)))) ∧ minI many (lenL (isort ltW (l.filter (prefB b)))) ≤ lenL (isort ltW (l.filter (prefB b))) := by
      unfold minI lenL; split <;> omega
    have hcut : cutL (isort ltW (l.filter (prefB b))) 0 (minI many (lenL (isort ltW (l.filter (prefB b))))) = (isort ltW (l.filter (prefB b))).take many.toNat := by
      unfold cutL minI lenL
      simp only [Int.toNat_zero, List.drop_zero]
      split
      · rename_i h
        rw [Int.toNat_natCast, List.take_of_length_le (Nat.le_refl _), List.take_of_length_le (by omega)]
      · rfl
    rw [if_pos ⟨by omega, hmin.1, hmin.2⟩, hcut, clone_ok _ (by rw [List.length_take]; omega), bindO_some']
  | n + 1, i, acc, e, ha, hacc => by
    obtain ⟨x, hx, hd⟩ := drop_at (l := l) (i := i) (by omega)
    have ht : l.take (i + 1) = l.take i ++ [x] := by rw [List.take_add_one, hx]; rfl
    rw [impl_HintFind.l5_eq, iteB_ltI, if_pos (by omega), atL_nat, hx, bindO_some', hasPrefix_ok x.1 b x.2, bindO_some']
    cases hp : prefB b (x.1, x.2) with
    | true =>
      rw [iteB_t, iteB_room, if_pos (by simp; rw [roomMax_eq]; omega), impl_HintFind.j9_eq, addI64 (i : Int) 1 (by omega) (by omega), show (i : Int) + 1 = ((i + 1 : Nat) : Int) by omega]
      refine iFind_l5 l b many hl hm hs n (i + 1) _ (by omega) (by unfold appL; simp; omega) ?_
      have hp' : prefB b x = true := hp
      rw [ht, List.filter_append, ← hacc]
      unfold appL
      simp [hp']
    | false =>
      rw [iteB_f, impl_HintFind.j9_eq, addI64 (i : Int) 1 (by omega) (by omega), show (i : Int) + 1 = ((i + 1 : Nat) : Int) by omega]
      refine iFind_l5 l b many hl hm hs n (i + 1) _ (by omega) (by omega) ?_
      have hp' : prefB b x = false := hp
      rw [ht, List.filter_append, ← hacc]
      simp [hp']

theorem iFind_ok (l : HL) (hl : Small l) (b : ByteArray) (many : Int) : impl_HintFind (l, (b, many)) = some (findH l b many) := by
  rw [impl_HintFind_eq, iHints_ok l hl, bindO_some', iteB_notB]
  unfold findH
  cases hB : hintsB l with
  | false => rfl
  | true =>
    obtain ⟨_, hs, h10⟩ := (hintsB_iff l).1 hB
    rw [iteB_t, iteB_ltI]
    simp only [Bool.true_eq_false, if_false]
    by_cases hm : many < 0
    · rw [if_pos hm, if_pos hm]
    · rw [if_neg hm, if_neg hm]
      have := iFind_l5 l b many h10 (by omega) hs l.length 0 [] (by omega) (by simp) (by simp)
      exact this

/-- The reference's inner loop: from the end. -/
theorem sFind_l9 (l : HL) (b : ByteArray) (many : Int) (i : Nat) (x : ByteArray × Int) (hx : l[i]? = some x) (out : HL) (ho : out.length ≤ 10) : ∀ (r B : HL), out = r.reverse ++ B →
    ∃ k : Nat, k ≤ out.length ∧ spec_HintFind.l9 l b many i (r.length : Int) out = spec_HintFind.j11 l b many i (k : Int) out ∧ out.take k ++ x :: out.drop k = (insR ltW x r).reverse ++ B
  | [], B, e => by
    refine ⟨0, Nat.zero_le _, ?_, by simp [insR, e]⟩
    rw [spec_HintFind.l9_eq, iteB_ltI, if_neg (by simp)]; rfl
  | y :: ys, B, e => by
    have hlen : ys.length < out.length := by rw [e]; simp
    have hy : out[ys.length]? = some y := by
      rw [e, List.reverse_cons, List.append_assoc, List.getElem?_append_right (by simp)]; simp
    rw [spec_HintFind.l9_eq, iteB_ltI, List.length_cons, if_pos (by omega), subI64 ((ys.length + 1 : Nat) : Int) 1 (by omega) (by omega), show ((ys.length + 1 : Nat) : Int) - 1 = (ys.length : Int) by omega]
    simp only [iteB_leI, iteB_ltI, lenL_eq, atL_nat, hy, hx, bindO_some']
    rw [if_pos (by omega), if_pos (by omega)]
    simp only [insR]
    by_cases h : y.2 < x.2
    · have hw : ltW x y = true := decide_eq_true h
      rw [if_pos h, if_pos hw]
      obtain ⟨k, k1, k2, k3⟩ := sFind_l9 l b many i x hx out ho ys (y :: B) (by rw [e]; simp)
      exact ⟨k, k1, k2, by rw [k3]; simp⟩
    · have hw : ¬ ltW x y = true := by unfold ltW; simpa using h
      rw [if_neg h, if_neg hw]
      refine ⟨ys.length + 1, by omega, rfl, ?_⟩
      have e2 : out = (y :: ys).reverse ++ B := e
      have hk : ((y :: ys).reverse).length = ys.length + 1 := by simp
      rw [e2, List.take_append_of_le_length (by omega), List.take_of_length_le (by omega), ← hk, List.drop_left]
      simp

theorem sFind_l5 (l : HL) (b : ByteArray) (many : Int) (hl : l.length ≤ 10) (hm : 0 ≤ many) : ∀ (n i : Nat) (acc : HL), i + n = l.length → acc.length ≤ i → acc.reverse = ((l.take i).filter (prefB b)).foldl (fun acc x => insR ltW x acc) [] →
    spec_HintFind.l5 l b many i acc = some ((isort ltW (l.filter (prefB b))).take many.toNat)
  | 0, i, acc, e, ha, hacc => by
    have hf : acc = isort ltW (l.filter (prefB b)) := by
      unfold isort; rw [← List.reverse_reverse acc, hacc, List.take_of_length_le (by omega)]
    rw [spec_HintFind.l5_eq, iteB_ltI, lenL_eq, if_neg (by omega), spec_HintFind.j12_eq, iteB_ltI, lenL_eq, spec_HintFind.j14_1_eq]
    by_cases h : many < (acc.length : Int)
    · rw [if_pos h, iteB_okCut, if_pos ⟨by omega, hm, by omega⟩, spec_HintFind.j14_eq, ← hf]
      unfold cutL; simp
    · rw [if_neg h, ← hf, List.take_of_length_le (by omega)]
  | n + 1, i, acc, e, ha, hacc => by
    obtain ⟨x, hx, hd⟩ := drop_at (l := l) (i := i) (by omega)
    have ht : l.take (i + 1) = l.take i ++ [x] := by rw [List.take_add_one, hx]; rfl
    rw [spec_HintFind.l5_eq, iteB_ltI, lenL_eq, if_pos (by omega), atL_nat, hx, bindO_some', begins_ok x.1 b x.2, bindO_some', iteB_notB]
    cases hp : prefB b (x.1, x.2) with
    | false =>
      rw [iteB_f, spec_HintFind.j6_eq, addI64 (i : Int) 1 (by omega) (by omega), show (i : Int) + 1 = ((i + 1 : Nat) : Int) by omega]
      refine sFind_l5 l b many hl hm n (i + 1) _ (by omega) (by omega) ?_
      have hp' : prefB b x = false := hp
      rw [ht, List.filter_append, hacc]
      simp [hp']
    | true =>
      have hp' : prefB b x = true := hp
      obtain ⟨k, k1, k2, k3⟩ := sFind_l9 l b many i x hx acc (by omega) acc.reverse [] (by simp)
      rw [List.length_reverse] at k2
      rw [iteB_t, lenL_eq, k2, spec_HintFind.j11_eq, spec_HintFind.j100011_eq, lenL_eq]
      have e1 : appL ([] : HL) (cutL acc 0 (k : Int)) = acc.take k := by unfold appL cutL; simp
      have e2 : cutL acc (k : Int) ((acc.length : Nat) : Int) = acc.drop k := by unfold cutL; simp
      simp only [iteB_okCut, iteB_room, atL_nat, hx, bindO_some', e1, e2]
      have hlen : (acc.take k).length ≤ 10 := by rw [List.length_take]; omega
      rw [if_pos (by omega), if_pos (by omega), if_pos (by unfold cutL; simp; rw [roomMax_eq]; omega), if_pos (by simp; rw [roomMax_eq]; omega), if_pos (by unfold appL; simp; rw [roomMax_eq]; omega)]
      have e3 : appL (appL (acc.take k) [x]) (acc.drop k) = (insR ltW x acc.reverse).reverse := by
        rw [List.append_nil] at k3
        rw [← k3]; unfold appL; simp
      rw [e3, spec_HintFind.j6_eq, addI64 (i : Int) 1 (by omega) (by omega), show (i : Int) + 1 = ((i + 1 : Nat) : Int) by omega]
      refine sFind_l5 l b many hl hm n (i + 1) _ (by omega) (by rw [List.length_reverse, insR_len, List.length_reverse]; omega) ?_
      rw [List.reverse_reverse, ht, List.filter_append, hacc, List.foldl_append]
      simp [hp']

theorem sFind_ok (l : HL) (hl : Small l) (b : ByteArray) (many : Int) : spec_HintFind (l, (b, many)) = some (findH l b many) := by
  rw [spec_HintFind_eq, sHints_ok l hl, bindO_some', iteB_notB]
  unfold findH
  cases hB : hintsB l with
  | false => rfl
  | true =>
    obtain ⟨_, hs, h10⟩ := (hintsB_iff l).1 hB
    rw [iteB_t, iteB_ltI]
    simp only [Bool.true_eq_false, if_false]
    by_cases hm : many < 0
    · rw [if_pos hm, if_pos hm]
    · rw [if_neg hm, if_neg hm]
      have := sFind_l5 l b many h10 (by omega) l.length 0 [] (by omega) (by simp) (by simp)
      exact this

theorem findH_len (l : HL) (b : ByteArray) (many : Int) : (findH l b many).length ≤ 10 := by
  unfold findH
  split
  · simp
  · rename_i hB
    have h10 := ((hintsB_iff l).1 (by simpa using hB)).2.2
    split
    · simp
    · have := isort_len ltW (l.filter (prefB b))
      have := List.length_filter_le (prefB b) l
      rw [List.length_take]; omega

/-- The law, of all arguments. -/
theorem exactHintFind (l : HL) (b : ByteArray) (many : Int) (hg : ∀ x ∈ l, x.1.size ≤ 9223372036854775807) (hn : l.length ≤ 9223372036854775807) : laws_FnExactHintFind (l, (b, many)) = some true := by
  rw [laws_FnExactHintFind_eq, iteB_ltI, lenS_eq]
  by_cases htb : (1048576 : Int) < (b.size : Int)
  · rw [if_pos htb]
  · rw [if_neg htb]
    obtain ⟨v, h1, h2⟩ := szHintS_ok l hg hn
    rw [h1, bindO_some', iteB_ltI]
    by_cases hv : v < 0
    · rw [if_pos hv]
    · have hs := h2 (by omega)
      have hl := findH_len l b many
      have e1 := eqHintS_ok (findH l b many) (by omega)
      have hp : ¬ (1 + 2 * (((findH l b many).length : Nat) : Int) < 0) := by omega
      have hp2 : ¬ (1 + 2 * ((l.length : Nat) : Int) < 0) := by omega
      rw [if_neg hv]
      simp only [toHintS_ok l hs.1, bindO_some', sFind_ok l hs b many, iFind_ok l hs b many, e1, eqHintS_ok l hs.1, iteB_notB, iteB_t, markH_ok l (by have := hs.1; omega), markH_ok (findH l b many) (by omega),
        heldH_ok (findH l b many) (by omega), iteB_ltI, hp, hp2, if_false, iteB_eqI, if_true]

theorem exactHintFind' (l : HL) (t : ByteArray) (w : Int) (hg : Good' (.sl (.pr .str (.int .i64))) l) (h2 : Good' .str t) (h3 : Good' (.int .i64) w) : laws_FnExactHintFind (l, (t, w)) = some true := by
  obtain ⟨h1, h2⟩ := hg
  have hm : maxLen = 9223372036854775807 := by decide
  rw [hm] at h1
  refine exactHintFind l t w (fun x hx => ?_) h1
  have h3 : x.1.size ≤ maxLen := (h2 x hx).1
  rw [hm] at h3; exact h3
end Go.E

set_option linter.unusedVariables false
namespace Go.E
open Go

/-! Plain: what is drawn. -/

theorem xor_ok (a b : Int) (ha : 0 ≤ a) (hb : 0 ≤ b) (ha' : a < 1099511627776) (hb' : b < 1099511627776) : 0 ≤ xorI Go.IntKind.i64 a b ∧ xorI Go.IntKind.i64 a b < 1099511627776 := by
  obtain ⟨m, rfl⟩ : ∃ m : Nat, a = (m : Int) := ⟨a.toNat, by omega⟩
  obtain ⟨n, rfl⟩ : ∃ n : Nat, b = (n : Int) := ⟨b.toNat, by omega⟩
  have hm : m < 2 ^ 40 := by omega
  have hn : n < 2 ^ 40 := by omega
  have e : (BitVec.ofInt Go.IntKind.i64.bits (m : Int) ^^^ BitVec.ofInt Go.IntKind.i64.bits (n : Int)).toNat = m ^^^ n := by
    have hbits : Go.IntKind.i64.bits = 64 := rfl
    rw [BitVec.toNat_xor, BitVec.toNat_ofInt, BitVec.toNat_ofInt, hbits]
    have h1 : ((m : Int) % ((2 ^ 64 : Nat) : Int)).toNat = m := by omega
    have h2 : ((n : Int) % ((2 ^ 64 : Nat) : Int)).toNat = n := by omega
    rw [h1, h2]
  have hx : m ^^^ n < 2 ^ 40 := Nat.xor_lt_two_pow hm hn
  unfold xorI
  rw [e]
  have hw : Go.IntKind.i64.wrap ((m ^^^ n : Nat) : Int) = ((m ^^^ n : Nat) : Int) := IntWalk.i64_in _ ⟨by omega, by omega⟩
  rw [hw]; omega

def Bytes (c : List Int) : Prop := c.length ≤ 2000 ∧ ∀ b ∈ c, 0 ≤ b ∧ b ≤ 255

theorem mod_ok (a n : Int) (ha : 0 ≤ a) (hn : 0 < n) : 0 ≤ modI a n ∧ modI a n < n := by
  unfold modI
  exact ⟨Int.tmod_nonneg _ ha, Int.tmod_lt_of_pos _ hn⟩

theorem at_mod {c : List Int} (hc : Bytes c) (h0 : 0 < c.length) (a : Int) (ha : 0 ≤ a) : ∃ b, atL c (modI a (c.length : Int)) = some b ∧ 0 ≤ b ∧ b ≤ 255 := by
  obtain ⟨h1, h2⟩ := mod_ok a c.length ha (by omega)
  obtain ⟨h, e⟩ := atL_get c _ h1 h2
  exact ⟨_, e, hc.2 _ (List.getElem_mem h)⟩

/-- A number is picked. -/
theorem pick_ok {c : List Int} (hc : Bytes c) {p n : Int} (hp : 0 ≤ p) (hp' : p ≤ 1000000) (hn : 1 ≤ n) (hn' : n ≤ 1000) : ∃ v, spec_l1Rd_pick ((c, p), n) = some (v, (c, p + 1)) ∧ 0 ≤ v ∧ v < n := by
  rw [spec_l1Rd_pick_eq, addI64 p 1 (by omega) (by omega), subI64 (p + 1) 1 (by omega) (by omega), show p + 1 - 1 = p by omega]
  simp only [iteB_ltI, iteB_eqI, lenL_eq]
  rw [if_neg (by omega)]
  by_cases h0 : (c.length : Int) = 0
  · rw [if_pos h0]; exact ⟨0, rfl, by omega, by omega⟩
  · have hlen : 0 < c.length := by omega
    have hl2 := hc.1
    have hconv : ∀ b : Int, 0 ≤ b → b ≤ 255 → convI Go.IntKind.i64 b = b := fun b h1 h2 => IntWalk.i64_in _ ⟨by omega, by omega⟩
    rw [if_neg h0]
    by_cases hlt : p < (c.length : Int)
    · rw [if_pos hlt]
      obtain ⟨h, e⟩ := atL_get c p hp hlt
      have hb := hc.2 _ (List.getElem_mem h)
      rw [e, bindO_some', if_neg (by omega), hconv _ hb.1 hb.2]
      exact ⟨_, rfl, mod_ok _ _ hb.1 (by omega)⟩
    · rw [if_neg hlt, if_neg h0]
      obtain ⟨b1, e1, k1, k2⟩ := at_mod hc hlen p hp
      have em : mulI Go.IntKind.i64 p 7 = p * 7 := IntWalk.i64_in _ ⟨by omega, by omega⟩
      obtain ⟨b2, e2, k3, k4⟩ := at_mod hc hlen (p * 7 + 3) (by omega)
      rw [e1, bindO_some', if_neg h0, em, addI64 (p * 7) 3 (by omega) (by omega), e2, bindO_some', if_neg h0, if_neg (by omega), if_neg (by omega), hconv b1 k1 k2, hconv b2 k3 k4]
      have m1 : mulI Go.IntKind.i64 b1 131 = b1 * 131 := IntWalk.i64_in _ ⟨by omega, by omega⟩
      have m2 : mulI Go.IntKind.i64 b2 1117 = b2 * 1117 := IntWalk.i64_in _ ⟨by omega, by omega⟩
      have m3 : mulI Go.IntKind.i64 p 29 = p * 29 := IntWalk.i64_in _ ⟨by omega, by omega⟩
      have hd : 0 ≤ p.tdiv c.length ∧ p.tdiv c.length ≤ p := by
        rw [Int.tdiv_eq_ediv_of_nonneg hp]
        exact ⟨Int.ediv_nonneg hp (by omega), Int.ediv_le_self _ hp⟩
      have d1 : divI Go.IntKind.i64 p (c.length : Int) = p.tdiv c.length := IntWalk.i64_in _ ⟨by omega, by omega⟩
      have m4 : mulI Go.IntKind.i64 (p.tdiv c.length) 53 = p.tdiv c.length * 53 := IntWalk.i64_in _ ⟨by omega, by omega⟩
      rw [m1, m2, m3, d1, m4, addI64 (b1 * 131) (b2 * 1117) (by omega) (by omega), addI64 (b1 * 131 + b2 * 1117) (p * 29) (by omega) (by omega), addI64 (b1 * 131 + b2 * 1117 + p * 29) _ (by omega) (by omega)]
      have hx0 : 0 ≤ b1 * 131 + b2 * 1117 + p * 29 + p.tdiv c.length * 53 ∧ b1 * 131 + b2 * 1117 + p * 29 + p.tdiv c.length * 53 ≤ 1000000000 := by omega
      generalize b1 * 131 + b2 * 1117 + p * 29 + p.tdiv c.length * 53 = x at hx0
      have hd2 : 0 ≤ x.tdiv 64 ∧ x.tdiv 64 ≤ x := by
        rw [Int.tdiv_eq_ediv_of_nonneg hx0.1]
        exact ⟨Int.ediv_nonneg hx0.1 (by omega), Int.ediv_le_self _ hx0.1⟩
      have d2 : divI Go.IntKind.i64 x 64 = x.tdiv 64 := IntWalk.i64_in _ ⟨by omega, by omega⟩
      rw [d2]
      have hxx := xor_ok x (x.tdiv 64) hx0.1 hd2.1 (by omega) (by omega)
      exact ⟨_, rfl, mod_ok _ _ hxx.1 (by omega)⟩

theorem pickOf_ok {c : List Int} (hc : Bytes c) {p : Int} (hp : 0 ≤ p) (hp' : p ≤ 1000000) (l : List ByteArray) (h1 : 1 ≤ l.length) (h2 : l.length ≤ 1000) : ∃ s ∈ l, spec_l1Rd_of ((c, p), l) = some (s, (c, p + 1)) := by
  obtain ⟨v, e, k1, k2⟩ := pick_ok hc hp hp' (n := (l.length : Int)) (by omega) (by omega)
  obtain ⟨h, e2⟩ := atL_get l v k1 k2
  refine ⟨_, List.getElem_mem h, ?_⟩
  rw [spec_l1Rd_of_eq]
  simp only [lenL_eq, e, bindO_some', e2]

theorem pickOne_ok {c : List Int} (hc : Bytes c) {p : Int} (hp : 0 ≤ p) (hp' : p ≤ 1000000) (l : List Int) (h1 : 1 ≤ l.length) (h2 : l.length ≤ 1000) : ∃ s ∈ l, spec_l1Rd_one ((c, p), l) = some (s, (c, p + 1)) := by
  obtain ⟨v, e, k1, k2⟩ := pick_ok hc hp hp' (n := (l.length : Int)) (by omega) (by omega)
  obtain ⟨h, e2⟩ := atL_get l v k1 k2
  refine ⟨_, List.getElem_mem h, ?_⟩
  rw [spec_l1Rd_one_eq]
  simp only [lenL_eq, e, bindO_some', e2]

theorem open_ok (c : List Int) (hc : ∀ b ∈ c, 0 ≤ b ∧ b ≤ 255) : ∃ d, spec_l1Open c = some (d, 0) ∧ Bytes d := by
  rw [spec_l1Open_eq, iteB_ltI, lenL_eq]
  by_cases h : (2000 : Int) < (c.length : Int)
  · rw [if_pos h, iteB_okCut, if_pos (by omega), spec_l1Open.j3_eq]
    refine ⟨_, rfl, ?_, fun b hb => ?_⟩
    · unfold cutL; simp; omega
    · unfold cutL at hb
      exact hc b (List.mem_of_mem_take (by simpa using hb))
  · rw [if_neg h, spec_l1Open.j3_eq]
    exact ⟨_, rfl, by omega, hc⟩

/-- Hints as they are drawn: few, and none is long. -/
def Few (n : Nat) (l : HL) : Prop := l.length ≤ n ∧ ∀ x ∈ l, x.1.size ≤ 100
theorem Few.small {n : Nat} {l : HL} (h : Few n l) (hn : n ≤ 1000) : Small l := ⟨by have := h.1; omega, fun x hx => by have := h.2 x hx; omega⟩

theorem insH_mem {l : HL} {t : ByteArray} {w : Int} {z : ByteArray × Int} (hz : z ∈ insH l t w) : z ∈ l ∨ z = (t, w) := by
  unfold insH at hz
  rcases List.mem_append.1 hz with h | h
  · exact .inl (List.mem_of_mem_take h)
  · rcases List.mem_cons.1 h with rfl | h
    · exact .inr rfl
    · exact .inl (List.mem_of_mem_drop h)

theorem addH_few {n : Nat} {l : HL} (h : Few n l) {t : ByteArray} (ht : t.size ≤ 100) (w : Int) : Few 10 (addH l t w).1 := by
  refine ⟨addH_len l t w, fun z hz => ?_⟩
  have key : ∀ z : ByteArray × Int, z ∈ l ∨ z.1 = t → z.1.size ≤ 100 := fun z hz => by
    rcases hz with hz | hz
    · exact h.2 z hz
    · rw [hz]; exact ht
  refine key z ?_
  unfold addH at hz
  split at hz
  · cases hz
  · split at hz
    · exact .inl hz
    · split at hz
      · split at hz
        · split at hz
          · rcases List.mem_or_eq_of_mem_set hz with hz | rfl
            · exact .inl hz
            · exact .inr rfl
          · exact .inl hz
        · split at hz
          · exact .inl hz
          · rcases insH_mem hz with hz | rfl
            · exact .inl hz
            · exact .inr rfl
      · split at hz
        · exact .inl hz
        · rcases insH_mem hz with hz | rfl
          · exact .inl hz
          · exact .inr rfl

theorem lim_const {α : Type} {f : Nat → Option α} {c : α} (h0 : f 0 = none) (h : ∀ k, f (k + 1) = some c) : lim f = some c :=
  lim_eq (fun k k' r r' e e' => by
    cases k with
    | zero => rw [h0] at e; cases e
    | succ k => cases k' with
      | zero => rw [h0] at e'; cases e'
      | succ k' => rw [h] at e e'; cases e; cases e'; rfl) (h 0)

theorem dec_digit (n : Int) (h0 : 0 ≤ n) (h9 : n < 10) : ∃ s, spec_l1Dec n = some s ∧ s.size = 1 := by
  refine ⟨strOf [convI Go.IntKind.u8 (addI Go.IntKind.i64 48 n)], ?_, rfl⟩
  unfold spec_l1Dec
  refine lim_const rfl (fun k => ?_)
  show spec_l1Dec.step (spec_l1Dec.fam k) n = _
  rw [spec_l1Dec.step_eq, iteB_ltI, if_neg (by omega), iteB_ltI, if_neg (by omega), iteB_ltI, if_pos (by omega)]

theorem hints_l8 {c : List Int} (hc : Bytes c) {p : Int} : ∀ (n i : Nat) (acc : HL), i + n = 10 → Few 10 acc → ∃ acc', spec_l11Hints.l8 i acc c p = some (acc', (c, p)) ∧ Few 10 acc'
  | 0, i, acc, e, h => by
    rw [spec_l11Hints.l8_eq, iteB_ltI, if_neg (by omega), spec_l11Hints.j11_eq]; exact ⟨acc, rfl, h⟩
  | n + 1, i, acc, e, h => by
    obtain ⟨s, hs, h1⟩ := dec_digit i (by omega) (by omega)
    have e1 : (bs [104]).size = 1 := rfl
    have hsz : (catS (bs [104]) s).size = 2 := by rw [← toL_len, toL_cat, List.length_append, toL_len, toL_len, e1, h1]
    rw [spec_l11Hints.l8_eq, iteB_ltI, if_pos (by omega), hs, bindO_some', iteB_roomS, if_pos (by rw [e1, h1, roomMax_eq]; omega), sAdd_ok acc (h.small (by omega)) _ (by omega) 1, bindO_some', addI64 (i : Int) 1 (by omega) (by omega), show (i : Int) + 1 = ((i + 1 : Nat) : Int) by omega]
    exact hints_l8 hc n (i + 1) _ (by omega) (addH_few h (by omega) 1)

theorem hints_l3 {c : List Int} (hc : Bytes c) : ∀ (n : Nat) (acc : HL) (p : Int), n ≤ 6 → 0 ≤ p → p + 2 * (n : Int) ≤ 100000 → Few 10 acc → ∃ acc' p', spec_l11Hints.l3 n acc c p = some (acc', (c, p')) ∧ Few 10 acc' ∧ 0 ≤ p' ∧ p' ≤ p + 2 * n + 1
  | 0, acc, p, hn, hp, hp', h => by
    rw [spec_l11Hints.l3_eq, iteB_ltI, if_neg (by omega), spec_l11Hints.j6_eq]
    obtain ⟨v, e, _, _⟩ := pick_ok hc hp (by omega) (n := 20) (by omega) (by omega)
    rw [e, bindO_some', iteB_eqI]
    split
    · obtain ⟨acc', e2, h2⟩ := hints_l8 hc (p := p + 1) 10 0 acc (by omega) h
      exact ⟨acc', p + 1, e2, h2, by omega, by omega⟩
    · rw [spec_l11Hints.j11_eq]; exact ⟨acc, p + 1, rfl, h, by omega, by omega⟩
  | n + 1, acc, p, hn, hp, hp', h => by
    obtain ⟨s, hs, e1⟩ := pickOf_ok hc hp (by omega) [bs [114, 101, 100], bs [114, 101, 100, 32, 97, 112, 112, 108, 101], bs [97, 112, 112, 108, 101, 32, 112, 105, 101], bs [116, 114, 101, 101], bs [97], bs [116, 114, 101, 101, 115]] (by simp) (by simp)
    obtain ⟨v, e2, k1, k2⟩ := pick_ok hc (p := p + 1) (by omega) (by omega) (n := 9) (by omega) (by omega)
    have hsz : s.size ≤ 100 := by
      have : ∀ s ∈ [bs [114, 101, 100], bs [114, 101, 100, 32, 97, 112, 112, 108, 101], bs [97, 112, 112, 108, 101, 32, 112, 105, 101], bs [116, 114, 101, 101], bs [97], bs [116, 114, 101, 101, 115]], s.size ≤ 100 := by decide
      exact this s hs
    rw [spec_l11Hints.l3_eq, iteB_ltI, if_pos (by omega), e1, bindO_some']
    simp only
    rw [e2, bindO_some', addI64 1 v (by omega) (by omega), sAdd_ok acc (h.small (by omega)) s (by omega) (1 + v), bindO_some', subI64 ((n + 1 : Nat) : Int) 1 (by omega) (by omega), show ((n + 1 : Nat) : Int) - 1 = (n : Int) by omega]
    obtain ⟨acc', p', e3, h3, h4, h5⟩ := hints_l3 hc n (addH acc s (1 + v)).1 (p + 1 + 1) (by omega) (by omega) (by omega) (addH_few h hsz _)
    exact ⟨acc', p', e3, h3, h4, by omega⟩

theorem hints_ok {c : List Int} (hc : Bytes c) {p : Int} (hp : 0 ≤ p) (hp' : p ≤ 1000) : ∃ l p', spec_l11Hints (c, p) = some (l, (c, p')) ∧ Few 10 l ∧ 0 ≤ p' ∧ p' ≤ p + 20 := by
  rw [spec_l11Hints_eq]
  obtain ⟨v, e, k1, k2⟩ := pick_ok hc hp (by omega) (n := 6) (by omega) (by omega)
  simp only [e, bindO_some']
  obtain ⟨n, rfl⟩ : ∃ n : Nat, v = (n : Int) := ⟨v.toNat, by omega⟩
  obtain ⟨acc', p', e3, h3, h4, h5⟩ := hints_l3 hc n [] (p + 1) (by omega) (by omega) (by omega) ⟨by simp, fun x hx => by cases hx⟩
  exact ⟨acc', p', e3, h3, h4, by omega⟩

theorem anyHints_ok {c : List Int} (hc : Bytes c) {p : Int} (hp : 0 ≤ p) (hp' : p ≤ 1000) : ∃ l p', spec_l11AnyHints (c, p) = some (l, (c, p')) ∧ Few 11 l ∧ 0 ≤ p' ∧ p' ≤ p + 30 := by
  obtain ⟨l, p1, e1, h1, h2, h3⟩ := hints_ok hc hp hp'
  have hl := h1.1
  have few : Few 11 l := ⟨by omega, h1.2⟩
  rw [spec_l11AnyHints_eq]
  simp only [e1, bindO_some']
  have e0 : appL ([] : HL) l = l := rfl
  rw [iteB_room, if_pos (by simp; rw [roomMax_eq]; omega), e0]
  obtain ⟨v, e2, _, _⟩ := pick_ok hc h2 (by omega) (n := 12) (by omega) (by omega)
  simp only [e2, bindO_some', iteB_eqI]
  by_cases hv : v = 0
  · rw [if_pos hv]
    obtain ⟨s, hs, e3⟩ := pickOf_ok hc (p := p1 + 1) (by omega) (by omega) [bs [], bs [82, 101, 100], bs [122, 122], bs [97, 32, 32, 98]] (by simp) (by simp)
    obtain ⟨w, e4, _, _⟩ := pick_ok hc (p := p1 + 1 + 1) (by omega) (by omega) (n := 3) (by omega) (by omega)
    have hsz : s.size ≤ 100 := by
      have : ∀ s ∈ [bs [], bs [82, 101, 100], bs [122, 122], bs [97, 32, 32, 98]], s.size ≤ 100 := by decide
      exact this s hs
    rw [e3, bindO_some']
    simp only [e4, bindO_some']
    rw [iteB_room, if_pos (by simp; rw [roomMax_eq]; omega), spec_l11AnyHints.j8_eq]
    refine ⟨_, _, rfl, ⟨by unfold appL; simp; omega, fun x hx => ?_⟩, by omega, by omega⟩
    unfold appL at hx
    rcases List.mem_append.1 hx with hx | hx
    · exact h1.2 x hx
    · simp at hx; subst hx; exact hsz
  · rw [if_neg hv]
    by_cases hv1 : v = 1
    · rw [if_pos hv1, iteB_ltI, lenL_eq]
      by_cases h0 : (0 : Int) < (l.length : Int)
      · obtain ⟨s, hs, e3⟩ := pickOne_ok hc (p := p1 + 1) (by omega) (by omega) [0, 999999999, 1000000000] (by simp) (by simp)
        obtain ⟨x, hx, _⟩ := drop_at (l := l) (i := 0) (by omega)
        have hat : atL l 0 = some x := by
          have := atL_nat l 0
          rw [show ((0 : Nat) : Int) = 0 from rfl] at this
          rw [this, hx]
        rw [if_pos h0, e3, bindO_some', iteB_leI, if_pos (by omega), iteB_ltI, if_pos h0, hat, bindO_some', spec_l11AnyHints.j8_eq]
        refine ⟨_, p1 + 1 + 1, rfl, ⟨by unfold setL; simp; omega, fun z hz => ?_⟩, by omega, by omega⟩
        unfold setL at hz
        rcases List.mem_or_eq_of_mem_set hz with hz | rfl
        · exact h1.2 z hz
        · exact h1.2 x (List.mem_of_getElem? hx)
      · rw [if_neg h0, spec_l11AnyHints.j8_eq]; exact ⟨l, _, rfl, few, by omega, by omega⟩
    · rw [if_neg hv1, spec_l11AnyHints.j8_eq]; exact ⟨l, _, rfl, few, by omega, by omega⟩

theorem drawAdd_ok (c : List Int) (hc : ∀ b ∈ c, 0 ≤ b ∧ b ≤ 255) : ∃ l t w, spec_DrawHintAdd c = some (l, (t, w)) ∧ Few 11 l ∧ t.size ≤ 100 ∧ 0 ≤ w ∧ w ≤ 1000000000 := by
  obtain ⟨d, e1, hd⟩ := open_ok c hc
  obtain ⟨l, p, e2, h1, h2, h3⟩ := anyHints_ok hd (p := 0) (by omega) (by omega)
  obtain ⟨t, ht, e3⟩ := pickOf_ok hd h2 (by omega) [bs [114, 101, 100], bs [110, 101, 119, 32, 104, 105, 110, 116], bs [116, 114, 101, 101], bs [], bs [82, 101, 100], bs [97, 32, 32, 98]] (by simp) (by simp)
  obtain ⟨w, hw, e4⟩ := pickOne_ok hd (p := p + 1) (by omega) (by omega) [1, 5, 0, 999999999, 1000000000] (by simp) (by simp)
  refine ⟨l, t, w, ?_, h1, ?_, ?_⟩
  · rw [spec_DrawHintAdd_eq, e1, bindO_some']
    simp only [e2, bindO_some', e3, e4]
  · have : ∀ s ∈ [bs [114, 101, 100], bs [110, 101, 119, 32, 104, 105, 110, 116], bs [116, 114, 101, 101], bs [], bs [82, 101, 100], bs [97, 32, 32, 98]], s.size ≤ 100 := by decide
    exact this t ht
  · simp at hw; omega

theorem drawFind_ok (c : List Int) (hc : ∀ b ∈ c, 0 ≤ b ∧ b ≤ 255) : ∃ l t w, spec_DrawHintFind c = some (l, (t, w)) ∧ Few 11 l ∧ t.size ≤ 100 ∧ -1 ≤ w ∧ w ≤ 5 := by
  obtain ⟨d, e1, hd⟩ := open_ok c hc
  obtain ⟨l, p, e2, h1, h2, h3⟩ := anyHints_ok hd (p := 0) (by omega) (by omega)
  obtain ⟨t, ht, e3⟩ := pickOf_ok hd h2 (by omega) [bs [], bs [114, 101], bs [114, 101, 100], bs [97], bs [122, 122]] (by simp) (by simp)
  obtain ⟨w, e4, k1, k2⟩ := pick_ok hd (p := p + 1) (by omega) (by omega) (n := 6) (by omega) (by omega)
  refine ⟨l, t, w - 1, ?_, h1, ?_, by omega, by omega⟩
  · rw [spec_DrawHintFind_eq, e1, bindO_some']
    simp only [e2, bindO_some', e3, e4]
    rw [subI64 w 1 (by omega) (by omega)]
  · have : ∀ s ∈ [bs [], bs [114, 101], bs [114, 101, 100], bs [97], bs [122, 122]], s.size ≤ 100 := by decide
    exact this t ht

/-- The bytes that a law is handed. -/
theorem good_bytes {c : List Int} (h : Good' (.sl (.int .u8)) c) : ∀ b ∈ c, 0 ≤ b ∧ b ≤ 255 := fun b hb => bounds_u8 (h.2 b hb)
end Go.E

set_option linter.unusedVariables false
namespace Go.E
open Go

/-! Plain: the laws 'FnHintTwice' and 'FnHintAdd'. -/

theorem set_hints {l : HL} (hB : hintsB l = true) {k : Nat} {x : ByteArray × Int} (hx : l[k]? = some x) {w : Int} (h0 : 1 ≤ w) (hm : x.2 + w ≤ 999999999) : hintsB (l.set k (x.1, x.2 + w)) = true := by
  obtain ⟨hall, hs, h10⟩ := (hintsB_iff l).1 hB
  have hxr := hintB_range (hall x (List.mem_of_getElem? hx))
  refine (hintsB_iff _).2 ⟨fun z hz => ?_, set_sorted hs hx _, by simpa using h10⟩
  rcases List.mem_or_eq_of_mem_set hz with h | rfl
  · exact hall z h
  · have hx' := hall x (List.mem_of_getElem? hx)
    unfold hintB at hx' ⊢
    rw [Bool.and_eq_true] at hx' ⊢
    exact ⟨hx'.1, decide_eq_true ⟨by simp only; omega, by simpa using hm⟩⟩

theorem ins_hints {l : HL} (hB : hintsB l = true) {t : ByteArray} {w : Int} (hn : ∀ x ∈ l, x.1 ≠ t) (hT : hintB (t, w) = true) (h9 : l.length < 10) : hintsB (insH l t w) = true := by
  obtain ⟨hall, hs, h10⟩ := (hintsB_iff l).1 hB
  refine (hintsB_iff _).2 ⟨fun z hz => ?_, (ins_sorted hs w hn).2, ?_⟩
  · rcases insH_mem hz with h | rfl
    · exact hall z h
    · exact hT
  · unfold insH; simp; have := place_le l t; omega

/-- A text that is there, and one that is not. -/
theorem addH_there {l : HL} (hB : hintsB l = true) {t : ByteArray} {k : Nat} {x : ByteArray × Int} (hx : l[k]? = some x) (ht : x.1 = t) (w : Int) :
    addH l t w = if hintB (t, w) = false then (l, false) else if x.2 + w ≤ 999999999 then (l.set k (t, x.2 + w), true) else (l, false) := by
  have hk := place_here ((hintsB_iff l).1 hB).2.1 hx ht
  unfold addH
  rw [if_neg (by rw [hB]; simp), hk, hx]
  simp only [ht, if_true]

theorem addH_new {l : HL} (hB : hintsB l = true) {t : ByteArray} (hn : ∀ x ∈ l, x.1 ≠ t) (w : Int) :
    addH l t w = if hintB (t, w) = false then (l, false) else if 10 ≤ l.length then (l, false) else (insH l t w, true) := by
  unfold addH
  rw [if_neg (by rw [hB]; simp)]
  split
  · rfl
  · split
    · rename_i x hx; rw [if_neg (hn x (List.mem_of_getElem? hx))]
    · rfl

theorem there_or (l : HL) (t : ByteArray) : (∃ (k : Nat) (x : ByteArray × Int), l[k]? = some x ∧ x.1 = t) ∨ ∀ x ∈ l, x.1 ≠ t := by
  by_cases h : ∃ x ∈ l, x.1 = t
  · obtain ⟨x, hx, ht⟩ := h
    obtain ⟨k, hk⟩ := List.mem_iff_getElem?.1 hx
    exact .inl ⟨k, x, hk, ht⟩
  · exact .inr fun x hx ht => h ⟨x, hx, ht⟩

theorem hintB_w (t : ByteArray) (w : Int) : hintB (t, w) = (hintT t && decide (1 ≤ w ∧ w ≤ 999999999)) := rfl

theorem take_place (l : HL) (t : ByteArray) : (l.take (placeL l t)).length = placeL l t := by
  have := place_le l t
  rw [List.length_take]; omega

theorem ins_at (l : HL) (t : ByteArray) (w : Int) : (insH l t w)[placeL l t]? = some (t, w) := by
  unfold insH
  rw [List.getElem?_append_right (by rw [take_place]; exact Nat.le_refl _), take_place]
  simp

theorem ins_set (l : HL) (t : ByteArray) (w v : Int) : (insH l t w).set (placeL l t) (t, v) = insH l t v := by
  unfold insH
  rw [List.set_append_right _ _ (by rw [take_place]; exact Nat.le_refl _), take_place]
  simp

theorem twice (l : HL) (t : ByteArray) (w : Int) (hw : 0 ≤ w) (h : (addH l t w).2 = true) : (addH (addH l t w).1 t 3).2 = (addH l t (w + 3)).2 ∧ ((addH l t (w + 3)).2 = true → (addH (addH l t w).1 t 3).1 = (addH l t (w + 3)).1) := by
  cases hB : hintsB l with
  | false => unfold addH at h; rw [if_pos hB] at h; cases h
  | true =>
    cases hH : hintB (t, w) with
    | false => unfold addH at h; rw [if_neg (by rw [hB]; simp), if_pos hH] at h; cases h
    | true =>
      have hr := hintB_range hH
      simp only at hr
      have hT : hintT t = true := by rw [hintB_w, Bool.and_eq_true] at hH; exact hH.1
      have h3 : hintB (t, 3) = true := by rw [hintB_w, hT]; rfl
      rcases there_or l t with ⟨k, x, hx, ht⟩ | hn
      · have e := addH_there hB hx ht
        have hlt := (List.getElem?_eq_some_iff.1 hx).1
        have hxr := hintB_range (((hintsB_iff l).1 hB).1 x (List.mem_of_getElem? hx))
        rw [e w, if_neg (by rw [hH]; simp)] at h ⊢
        by_cases hm : x.2 + w ≤ 999999999
        · rw [if_pos hm] at h ⊢
          have hB2 := set_hints hB hx hr.1 hm
          rw [ht] at hB2
          have hx2 : (l.set k (t, x.2 + w))[k]? = some (t, x.2 + w) := by simp [hlt]
          have e2 := addH_there hB2 hx2 rfl 3
          simp only at e2 ⊢
          rw [e2, if_neg (by rw [h3]; simp), e (w + 3)]
          by_cases hm3 : x.2 + w + 3 ≤ 999999999
          · have hH3 : hintB (t, w + 3) = true := by rw [hintB_w, hT, decide_eq_true ⟨by omega, by omega⟩]; rfl
            rw [if_pos hm3, if_neg (by rw [hH3]; simp), if_pos (by omega)]
            refine ⟨rfl, fun _ => ?_⟩
            simp only [List.set_set]
            rw [show x.2 + w + 3 = x.2 + (w + 3) by omega]
          · rw [if_neg hm3]
            have : (if hintB (t, w + 3) = false then (l, false) else if x.2 + (w + 3) ≤ 999999999 then (l.set k (t, x.2 + (w + 3)), true) else (l, false)) = (l, false) := by
              split
              · rfl
              · rw [if_neg (by omega)]
            rw [this]
            exact ⟨rfl, fun h => by cases h⟩
        · rw [if_neg hm] at h; cases h
      · have e := addH_new hB hn
        rw [e w, if_neg (by rw [hH]; simp)] at h ⊢
        by_cases h10 : 10 ≤ l.length
        · rw [if_pos h10] at h; cases h
        · rw [if_neg h10] at h ⊢
          have hB2 := ins_hints hB hn hH (by omega)
          have e2 := addH_there hB2 (ins_at l t w) rfl 3
          simp only at e2 ⊢
          rw [e2, if_neg (by rw [h3]; simp), e (w + 3)]
          by_cases hm3 : w + 3 ≤ 999999999
          · have hH3 : hintB (t, w + 3) = true := by rw [hintB_w, hT, decide_eq_true ⟨by omega, by omega⟩]; rfl
            rw [if_pos hm3, if_neg (by rw [hH3]; simp), if_neg h10]
            exact ⟨rfl, fun _ => ins_set l t w (w + 3)⟩
          · have hH3 : hintB (t, w + 3) = false := by rw [hintB_w, decide_eq_false (by omega)]; simp
            rw [if_neg hm3, if_pos hH3]
            exact ⟨rfl, fun h => by cases h⟩

theorem sd_ok (l : HL) (hn : l.length ≤ 1048576) : laws_sdHints (l, l) = some true := by
  rw [laws_sdHints_eq, iteB_notB, iteB_eqI, if_pos rfl]
  have := loop_all (l := fun i => laws_sdHints.l4 l l i) (n := l.length) (p := fun _ => true) (fin := true) (fun i hi => ?_) ?_ l.length 0 (by omega)
  · exact this.trans (by simp)
  · rw [laws_sdHints.l4_eq, iteB_ltI, lenL_eq, if_pos (by omega)]
    have e : ∀ x : ByteArray × Int, andB (eqS x.1 x.1) (eqI x.2 x.2) = true := fun x => by simp [andB, eqS, eqI]
    simp only [atL_nat, List.getElem?_eq_getElem hi, bindO_some', iteB_notB, e]
    rw [iteB_t, addI64 (i : Int) 1 (by omega) (by omega)]; rfl
  · rw [laws_sdHints.l4_eq, iteB_ltI, lenL_eq, if_neg (by omega), laws_sdHints.j8_eq]

theorem hintTwice (c : List Int) (hc : ∀ b ∈ c, 0 ≤ b ∧ b ≤ 255) : laws_FnHintTwice c = some true := by
  rw [laws_FnHintTwice_eq, iteB_ltI, lenL_eq]
  split
  · rfl
  · obtain ⟨l, t, w, e1, hl, ht, hw0, hw1⟩ := drawAdd_ok c hc
    have hs := hl.small (by omega)
    have fA := addH_few hl ht w
    have sA := fA.small (by omega)
    have hlen := addH_len l t w
    simp only [e1, bindO_some', iAdd_ok l hs t (by omega) w, sAdd_ok l hs t (by omega) w, eqBo_self, sd_ok (addH l t w).1 (by omega), iteB_notB, iteB_t, iAdd_ok (addH l t w).1 sA t (by omega) 3]
    rw [addI64 w 3 (by omega) (by omega)]
    simp only [iAdd_ok l hs t (by omega) (w + 3), bindO_some']
    cases h : (addH l t w).2 with
    | false => rfl
    | true =>
      obtain ⟨k1, k2⟩ := twice l t w hw0 h
      rw [iteB_t, k1, eqBo_self, iteB_t]
      cases h2 : (addH l t (w + 3)).2 with
      | false => rfl
      | true =>
        have := addH_len l t (w + 3)
        rw [iteB_t, k2 h2, sd_ok _ (by omega), bindO_some']

theorem hintTwice' (c : List Int) (hg : Good' (.sl (.int .u8)) c) : laws_FnHintTwice c = some true := hintTwice c (good_bytes hg)
end Go.E

set_option linter.unusedVariables false
namespace Go.E
open Go

/-! Plain: the law 'FnHintAdd'. -/

/-- The weight of a text: the last one. -/
def wgt (t : ByteArray) : HL → Int → Int
  | [], z => z
  | x :: r, z => wgt t r (if x.1 = t then x.2 else z)

def cntL (y : ByteArray × Int) (l : HL) : Nat := l.countP (fun x => decide (x.1 = y.1) && decide (x.2 = y.2))
def cntX (t : ByteArray) (l : HL) : HL → Nat
  | [] => 0
  | y :: r => (if y.1 = t then 0 else cntL y l) + cntX t l r

theorem wgt_none (t : ByteArray) : ∀ (l : HL) (z : Int), (∀ x ∈ l, x.1 ≠ t) → wgt t l z = z
  | [], _, _ => rfl
  | x :: r, z, h => by rw [wgt, if_neg (h x (by simp)), wgt_none t r z (fun y hy => h y (by simp [hy]))]

theorem wgt_one (t : ByteArray) : ∀ (l : HL) (z : Int) (k : Nat) (x : ByteArray × Int), l.Pairwise (fun x y => ltT x y = true) → l[k]? = some x → x.1 = t → wgt t l z = x.2
  | [], _, k, x, _, h, _ => by simp at h
  | y :: r, z, 0, x, hs, h, ht => by
    simp at h; subst h
    rw [wgt, if_pos ht, wgt_none]
    intro u hu e
    have := (List.pairwise_cons.1 hs).1 u hu
    unfold ltT at this
    exact ltS_neq this (ht.trans e.symm)
  | y :: r, z, k + 1, x, hs, h, ht => by
    rw [wgt]
    exact wgt_one t r _ k x (List.pairwise_cons.1 hs).2 (by simpa using h) ht

theorem eqBoth (a b : ByteArray × Int) : andB (eqS a.1 b.1) (eqI a.2 b.2) = (decide (a.1 = b.1) && decide (a.2 = b.2)) := rfl

theorem hA_l13 (t : ByteArray) (w now : Int) (same : Int) (x l : HL) (hl : l.length ≤ 1000) : ∀ (n i : Nat) (was : Int), i + n = l.length →
    laws_FnHintAdd.l13 t w was now i x l = laws_FnHintAdd.j17 t w (wgt t (l.drop i) was) now x l
  | 0, i, was, e => by
    rw [laws_FnHintAdd.l13_eq, iteB_ltI, lenL_eq, if_neg (by omega), List.drop_eq_nil_of_le (by omega)]; rfl
  | n + 1, i, was, e => by
    obtain ⟨y, hy, hd⟩ := drop_at (l := l) (i := i) (by omega)
    rw [laws_FnHintAdd.l13_eq]
    have c1 : ((i : Int) < (l.length : Int)) = True := eq_true (by omega)
    have c2 : ((0 : Int) ≤ (i : Int)) = True := eq_true (by omega)
    simp only [iteB_ltI, iteB_leI, lenL_eq, atL_nat, hy, bindO_some', iteB_eqS, c1, c2, if_true]
    rw [hd, wgt]
    by_cases h : y.1 = t
    · rw [if_pos h, if_pos h, laws_FnHintAdd.j14_eq, addI64 (i : Int) 1 (by omega) (by omega), show (i : Int) + 1 = ((i + 1 : Nat) : Int) by omega]
      exact hA_l13 t w now same x l hl n (i + 1) y.2 (by omega)
    · rw [if_neg h, if_neg h, laws_FnHintAdd.j14_eq, addI64 (i : Int) 1 (by omega) (by omega), show (i : Int) + 1 = ((i + 1 : Nat) : Int) by omega]
      exact hA_l13 t w now same x l hl n (i + 1) was (by omega)

theorem hA_l24 (t : ByteArray) (w was now : Int) (x l : HL) (hl : l.length ≤ 1000) (i : Nat) (y : ByteArray × Int) (hy : x[i]? = some y) : ∀ (n k : Nat) (same : Nat), k + n = l.length → same + n ≤ 1000000 →
    laws_FnHintAdd.l24 t w was now (same : Int) i k x l = laws_FnHintAdd.j20 t w was now ((same + (if y.1 = t then 0 else cntL y (l.drop k)) : Nat) : Int) i x l
  | 0, k, same, e, hb => by
    rw [laws_FnHintAdd.l24_eq, iteB_ltI, lenL_eq, if_neg (by omega), List.drop_eq_nil_of_le (by omega)]
    congr 1
    split <;> simp [cntL]
  | n + 1, k, same, e, hb => by
    obtain ⟨z, hz, hd⟩ := drop_at (l := l) (i := k) (by omega)
    have hix := (List.getElem?_eq_some_iff.1 hy).1
    have hcnt : cntL y (l.drop k) = (if z.1 = y.1 ∧ z.2 = y.2 then 1 else 0) + cntL y (l.drop (k + 1)) := by
      rw [hd]; unfold cntL
      rw [List.countP_cons]
      by_cases h1 : z.1 = y.1 <;> by_cases h2 : z.2 = y.2 <;> simp [h1, h2] <;> omega
    rw [laws_FnHintAdd.l24_eq]
    have c1 : ((i : Int) < (x.length : Int)) = True := eq_true (by omega)
    have c2 : ((0 : Int) ≤ (i : Int)) = True := eq_true (by omega)
    have c3 : ((k : Int) < (l.length : Int)) = True := eq_true (by omega)
    have c4 : ((0 : Int) ≤ (k : Int)) = True := eq_true (by omega)
    simp only [iteB_ltI, iteB_leI, lenL_eq, atL_nat, hz, hy, bindO_some', eqBoth, c1, c2, c3, c4, if_true]
    rw [addI64 (same : Int) 1 (by omega) (by omega)]
    have next : ∀ s : Nat, s + n ≤ 1000000 → laws_FnHintAdd.j25 t w was now (s : Int) i k x l = laws_FnHintAdd.j20 t w was now ((s + (if y.1 = t then 0 else cntL y (l.drop (k + 1))) : Nat) : Int) i x l := fun s hs => by
      rw [laws_FnHintAdd.j25_eq, addI64 (k : Int) 1 (by omega) (by omega), show (k : Int) + 1 = ((k + 1 : Nat) : Int) by omega]
      exact hA_l24 t w was now x l hl i y hy n (k + 1) s (by omega) hs
    by_cases h : z.1 = y.1 ∧ z.2 = y.2
    · rw [decide_eq_true h.1, decide_eq_true h.2]
      simp only [Bool.and_self, iteB_t]
      rw [iteB_notB, iteB_eqS, hcnt, if_pos h]
      by_cases ht : y.1 = t
      · rw [if_pos ht, next same (by omega), if_pos ht, if_pos ht]
      · rw [if_neg ht, show (same : Int) + 1 = ((same + 1 : Nat) : Int) by omega, next (same + 1) (by omega), if_neg ht, if_neg ht]
        congr 2; omega
    · have hf : (decide (z.1 = y.1) && decide (z.2 = y.2)) = false := by
        by_cases h1 : z.1 = y.1 <;> by_cases h2 : z.2 = y.2 <;> simp [h1, h2]
        exact h ⟨h1, h2⟩
      rw [hf, iteB_f, next same (by omega), hcnt, if_neg h, Nat.zero_add]

theorem hA_l19 (t : ByteArray) (w was : Int) (x l : HL) (hx : x.length ≤ 100) (hl : l.length ≤ 100) : ∀ (n i : Nat) (now : Int) (same : Nat), i + n = x.length → same + n * 100 ≤ 100000 →
    laws_FnHintAdd.l19 t w was now (same : Int) i x l = laws_FnHintAdd.j28 w was (wgt t (x.drop i) now) ((same + cntX t l (x.drop i) : Nat) : Int) x
  | 0, i, now, same, e, hb => by
    rw [laws_FnHintAdd.l19_eq, iteB_ltI, lenL_eq, if_neg (by omega), List.drop_eq_nil_of_le (by omega)]; rfl
  | n + 1, i, now, same, e, hb => by
    obtain ⟨y, hy, hd⟩ := drop_at (l := x) (i := i) (by omega)
    have hc : cntL y l ≤ 100 := by unfold cntL; have := List.countP_le_length (p := fun x : ByteArray × Int => decide (x.1 = y.1) && decide (x.2 = y.2)) (l := l); omega
    rw [laws_FnHintAdd.l19_eq]
    have c1 : ((i : Int) < (x.length : Int)) = True := eq_true (by omega)
    have c2 : ((0 : Int) ≤ (i : Int)) = True := eq_true (by omega)
    simp only [iteB_ltI, iteB_leI, lenL_eq, atL_nat, hy, bindO_some', iteB_eqS, c1, c2, if_true]
    rw [hd, wgt, cntX]
    have next : ∀ v : Int, laws_FnHintAdd.j23 t w was v (same : Int) i x l = laws_FnHintAdd.j28 w was (wgt t (x.drop (i + 1)) v) ((same + ((if y.1 = t then 0 else cntL y l) + cntX t l (x.drop (i + 1))) : Nat) : Int) x := fun v => by
      rw [laws_FnHintAdd.j23_eq]
      have h24 := hA_l24 t w was v x l (by omega) i y hy l.length 0 same (by omega) (by omega)
      rw [show ((0 : Nat) : Int) = 0 from rfl] at h24
      rw [h24, List.drop_zero, laws_FnHintAdd.j20_eq, addI64 (i : Int) 1 (by omega) (by omega), show (i : Int) + 1 = ((i + 1 : Nat) : Int) by omega]
      rw [hA_l19 t w was x l hx hl n (i + 1) v _ (by omega) (by split <;> omega)]
      congr 2; omega
    by_cases h : y.1 = t
    · simp only [if_pos h, next]
    · simp only [if_neg h, next]

theorem cnt_mem {l : HL} (hs : l.Pairwise (fun x y => ltT x y = true)) {y : ByteArray × Int} (hy : y ∈ l) : cntL y l = 1 := by
  induction l with
  | nil => cases hy
  | cons x r ih =>
    have hp := List.pairwise_cons.1 hs
    unfold cntL
    rw [List.countP_cons]
    rcases List.mem_cons.1 hy with rfl | hy
    · have : r.countP (fun x => decide (x.1 = y.1) && decide (x.2 = y.2)) = 0 := by
        rw [List.countP_eq_zero]
        intro z hz
        have := hp.1 z hz
        unfold ltT at this
        have hne := ltS_neq this
        simp [Ne.symm hne]
      rw [this]; simp
    · have hne : x.1 ≠ y.1 := by
        have := hp.1 y hy
        unfold ltT at this
        exact ltS_neq this
      have := ih hp.2 hy
      unfold cntL at this
      rw [this]; simp [hne]

theorem cntX_sum (t : ByteArray) (l : HL) (hs : l.Pairwise (fun x y => ltT x y = true)) : ∀ x : HL, (∀ y ∈ x, y.1 ≠ t → y ∈ l) → cntX t l x = x.countP (fun y => !decide (y.1 = t))
  | [], _ => rfl
  | y :: r, h => by
    rw [cntX, List.countP_cons, cntX_sum t l hs r (fun z hz => h z (by simp [hz]))]
    by_cases ht : y.1 = t
    · simp [ht]
    · rw [if_neg ht, cnt_mem hs (h y (by simp) ht)]
      simp [ht]; omega

theorem count_others {x : HL} (hs : x.Pairwise (fun x y => ltT x y = true)) {k : Nat} {y : ByteArray × Int} (hy : x[k]? = some y) : x.countP (fun z => !decide (z.1 = y.1)) = x.length - 1 := by
  induction x generalizing k with
  | nil => simp at hy
  | cons a r ih =>
    have hp := List.pairwise_cons.1 hs
    rw [List.countP_cons]
    cases k with
    | zero =>
      simp at hy; subst hy
      have : r.countP (fun z => !decide (z.1 = a.1)) = r.length := by
        rw [List.countP_eq_length]
        intro z hz
        have := hp.1 z hz
        unfold ltT at this
        simp [Ne.symm (ltS_neq this)]
      rw [this]; simp
    | succ k =>
      have hy' : r[k]? = some y := by simpa using hy
      have hne : a.1 ≠ y.1 := by
        have := hp.1 y (List.mem_of_getElem? hy')
        unfold ltT at this
        exact ltS_neq this
      have hl := (List.getElem?_eq_some_iff.1 hy').1
      rw [ih hp.2 hy']; simp [hne]; omega

theorem hintAdd (c : List Int) (hc : ∀ b ∈ c, 0 ≤ b ∧ b ≤ 255) : laws_FnHintAdd c = some true := by
  rw [laws_FnHintAdd_eq, iteB_ltI, lenL_eq]
  split
  · rfl
  · obtain ⟨l, t, w, e1, hl, ht, hw0, hw1⟩ := drawAdd_ok c hc
    have hs := hl.small (by omega)
    have fA := addH_few hl ht w
    have sA := fA.small (by omega)
    have hlen := addH_len l t w
    simp only [e1, bindO_some', iAdd_ok l hs t (by omega) w, sAdd_ok l hs t (by omega) w, eqBo_self, sd_ok (addH l t w).1 (by omega), iteB_notB, iteB_t, iHints_ok l hs, sHints_ok l hs]
    cases hB : hintsB l with
    | false => rfl
    | true =>
      rw [iteB_t]
      have hsort := ((hintsB_iff l).1 hB).2.1
      have h10 := ((hintsB_iff l).1 hB).2.2
      cases h : (addH l t w).2 with
      | false =>
        have : (addH l t w).1 = l := by
          rcases there_or l t with ⟨k, x, hx, hxt⟩ | hn
          · rw [addH_there hB hx hxt w] at h ⊢
            split
            · rfl
            · split
              · rename_i h1 h2; rw [if_neg h1, if_pos h2] at h; cases h
              · rfl
          · rw [addH_new hB hn w] at h ⊢
            split
            · rfl
            · split
              · rfl
              · rename_i h1 h2; rw [if_neg h1, if_neg h2] at h; cases h
        rw [iteB_f, this, sd_ok l hs.1, bindO_some']
      | true =>
        rw [iteB_t]
        have h13 := hA_l13 t w 0 0 (addH l t w).1 l (by omega) l.length 0 0 (by omega)
        rw [show ((0 : Nat) : Int) = 0 from rfl] at h13
        have h19 := hA_l19 t w (wgt t l 0) (addH l t w).1 l (by omega) (by omega) (addH l t w).1.length 0 0 0 (by omega) (by omega)
        rw [show ((0 : Nat) : Int) = 0 from rfl] at h19
        rw [h13, List.drop_zero, laws_FnHintAdd.j17_eq, h19, List.drop_zero, laws_FnHintAdd.j28_eq, iHints_ok _ sA, bindO_some', lenL_eq, Nat.zero_add]
        have hH : hintB (t, w) = true := by
          cases hH : hintB (t, w) with
          | true => rfl
          | false => unfold addH at h; rw [if_neg (by rw [hB]; simp), if_pos hH] at h; cases h
        have hr := hintB_range hH
        simp only at hr
        -- what the result is
        have key : ∃ (k : Nat) (v : Int), hintsB (addH l t w).1 = true ∧ (addH l t w).1[k]? = some (t, v) ∧ v = wgt t l 0 + w ∧ (∀ y ∈ (addH l t w).1, y.1 ≠ t → y ∈ l) ∧ 0 ≤ wgt t l 0 ∧ wgt t l 0 ≤ 999999999 := by
          rcases there_or l t with ⟨k, x, hx, hxt⟩ | hn
          · have hlt := (List.getElem?_eq_some_iff.1 hx).1
            have hxr := hintB_range (((hintsB_iff l).1 hB).1 x (List.mem_of_getElem? hx))
            rw [addH_there hB hx hxt w, if_neg (by rw [hH]; simp)] at h ⊢
            by_cases hm : x.2 + w ≤ 999999999
            · rw [if_pos hm]
              have hB2 := set_hints hB hx hr.1 hm
              rw [hxt] at hB2
              refine ⟨k, x.2 + w, hB2, by simp [hlt], by rw [wgt_one t l 0 k x hsort hx hxt], fun y hy hyt => ?_, ?_⟩
              · rcases List.mem_or_eq_of_mem_set hy with hy | rfl
                · exact hy
                · exact absurd rfl hyt
              · rw [wgt_one t l 0 k x hsort hx hxt]; omega
            · rw [if_neg hm] at h; cases h
          · rw [addH_new hB hn w, if_neg (by rw [hH]; simp)] at h ⊢
            by_cases h10' : 10 ≤ l.length
            · rw [if_pos h10'] at h; cases h
            · rw [if_neg h10']
              refine ⟨placeL l t, w, ins_hints hB hn hH (by omega), ins_at l t w, by rw [wgt_none t l 0 hn]; omega, fun y hy hyt => ?_, by rw [wgt_none t l 0 hn]; omega⟩
              rcases insH_mem hy with hy | rfl
              · exact hy
              · exact absurd rfl hyt
        obtain ⟨k, v, k1, k2, k3, k4, k5⟩ := key
        have hsA := ((hintsB_iff _).1 k1).2.1
        have hlp := (List.getElem?_eq_some_iff.1 k2).1
        have hco := count_others hsA k2
        simp only at hco
        rw [k1, iteB_t, wgt_one t _ 0 k (t, v) hsA k2 rfl, cntX_sum t l hsort _ k4, hco, iteB_eqI, addI64 (wgt t l 0) w (by omega) (by omega), if_pos (by simpa using k3), subI64 _ 1 (by omega) (by omega)]
        congr 1
        unfold eqI
        exact decide_eq_true (by omega)

theorem hintAdd' (c : List Int) (hg : Good' (.sl (.int .u8)) c) : laws_FnHintAdd c = some true := hintAdd c (good_bytes hg)
end Go.E

set_option linter.unusedVariables false
namespace Go.E
open Go

/-! Plain: the law 'FnHintLess'. -/

def Asc (l : HL) : Prop := l.Pairwise (fun a b => a.2 ≤ b.2)

theorem asc_ins {x : ByteArray × Int} : ∀ {l : HL}, Asc l → Asc (insR ltW x l)
  | [], _ => by simp [insR, Asc]
  | y :: ys, h => by
    have hp := List.pairwise_cons.1 h
    simp only [insR]
    split
    · rename_i hxy
      have hlt : y.2 < x.2 := of_decide_eq_true hxy
      refine List.pairwise_cons.2 ⟨fun z hz => ?_, asc_ins hp.2⟩
      rcases insR_mem ys hz with rfl | hz
      · omega
      · exact hp.1 z hz
    · rename_i hxy
      have hge : ¬ y.2 < x.2 := fun e => hxy (decide_eq_true e)
      refine List.pairwise_cons.2 ⟨fun z hz => ?_, h⟩
      rcases List.mem_cons.1 hz with rfl | hz
      · omega
      · have := hp.1 z hz; omega

theorem ins_filter {x : ByteArray × Int} (p : ByteArray × Int → Bool) : ∀ {l : HL}, Asc l → (insR ltW x l).filter p = if p x = true then insR ltW x (l.filter p) else l.filter p
  | [], _ => by simp only [insR, List.filter_nil]; by_cases h : p x = true <;> simp [h]
  | y :: ys, h => by
    have hp := List.pairwise_cons.1 h
    simp only [insR]
    by_cases hxy : ltW x y = true
    · rw [if_pos hxy, List.filter_cons, ins_filter p hp.2, List.filter_cons]
      by_cases hx : p x = true <;> by_cases hy : p y = true <;> simp [hx, hy, insR, hxy]
    · rw [if_neg hxy]
      have hge : ¬ y.2 < x.2 := fun e => hxy (decide_eq_true e)
      have stay : ∀ m : HL, (∀ z ∈ m, ¬ z.2 < x.2) → insR ltW x m = x :: m := fun m hm => by
        cases m with
        | nil => rfl
        | cons z r =>
          have hz : ¬ ltW x z = true := fun e => hm z (by simp) (of_decide_eq_true e)
          simp only [insR]
          rw [if_neg hz]
      have hall : ∀ z ∈ (y :: ys).filter p, ¬ z.2 < x.2 := fun z hz => by
        have hz := (List.mem_filter.1 hz).1
        rcases List.mem_cons.1 hz with rfl | hz
        · exact hge
        · have := hp.1 z hz; omega
      by_cases hx : p x = true
      · rw [if_pos hx, stay _ hall, List.filter_cons, if_pos hx]
      · rw [if_neg hx, List.filter_cons, if_neg hx]

theorem fold_filter (p : ByteArray × Int → Bool) : ∀ (l acc : HL), Asc acc → (l.foldl (fun acc x => insR ltW x acc) acc).filter p = (l.filter p).foldl (fun acc x => insR ltW x acc) (acc.filter p)
  | [], acc, _ => rfl
  | x :: l, acc, h => by
    rw [List.foldl_cons, fold_filter p l _ (asc_ins h), ins_filter p h, List.filter_cons]
    split
    · rfl
    · rfl

theorem isort_filter (p : ByteArray × Int → Bool) (l : HL) : (isort ltW l).filter p = isort ltW (l.filter p) := by
  unfold isort
  rw [List.filter_reverse, fold_filter p l [] List.Pairwise.nil]; rfl

/-- Matching one row along another. -/
def along : HL → HL → Nat
  | _, [] => 0
  | [], _ :: _ => 0
  | a :: az, m :: ms => if m = a then along az ms + 1 else along (a :: az) ms

theorem along_sub : ∀ (m x : HL), x.Sublist m → along x m = x.length
  | [], x, h => by have := List.sublist_nil.1 h; subst this; rfl
  | m :: ms, [], _ => rfl
  | m :: ms, a :: az, h => by
    rw [along]
    by_cases e : m = a
    · subst e
      rw [if_pos rfl, along_sub ms az (List.cons_sublist_cons.1 h)]; rfl
    · rw [if_neg e]
      refine along_sub ms (a :: az) ?_
      cases h with
      | cons _ h => exact h
      | cons_cons _ h => exact absurd rfl e

theorem pair_eq (a b : ByteArray × Int) : (decide (a.1 = b.1) && decide (a.2 = b.2)) = decide (a = b) := by
  by_cases h : a = b
  · subst h; simp
  · have : ¬ (a.1 = b.1 ∧ a.2 = b.2) := fun e => h (Prod.ext e.1 e.2)
    rw [decide_eq_false h]
    by_cases h1 : a.1 = b.1 <;> by_cases h2 : a.2 = b.2 <;> simp [h1, h2]
    exact this ⟨h1, h2⟩

theorem hL_l10 (more x : HL) (hm : more.length ≤ 1000) (hx : x.length ≤ 1000) : ∀ (k i n : Nat), i + k = more.length → n ≤ x.length →
    laws_FnHintLess.l10 (n : Int) i more x = some (eqI (((n + along (x.drop n) (more.drop i) : Nat) : Int)) (x.length : Int))
  | 0, i, n, e, hn => by
    have hd0 : more.drop i = [] := List.drop_eq_nil_of_le (by omega)
    rw [laws_FnHintLess.l10_eq, iteB_ltI, lenL_eq, if_neg (by omega), laws_FnHintLess.j14_eq, hd0]
    have : along (x.drop n) [] = 0 := by cases x.drop n <;> rfl
    rw [this]; rfl
  | k + 1, i, n, e, hn => by
    obtain ⟨y, hy, hd⟩ := drop_at (l := more) (i := i) (by omega)
    have c1 : ((i : Int) < (more.length : Int)) = True := eq_true (by omega)
    have c2 : ((0 : Int) ≤ (i : Int)) = True := eq_true (by omega)
    have c4 : ((0 : Int) ≤ (n : Int)) = True := eq_true (by omega)
    have next : ∀ q : Nat, q ≤ x.length → laws_FnHintLess.j11 (q : Int) i more x = some (eqI (((q + along (x.drop q) (more.drop (i + 1)) : Nat) : Int)) (x.length : Int)) := fun q hq => by
      rw [laws_FnHintLess.j11_eq, addI64 (i : Int) 1 (by omega) (by omega), show (i : Int) + 1 = ((i + 1 : Nat) : Int) by omega]
      exact hL_l10 more x hm hx k (i + 1) q (by omega) hq
    rw [laws_FnHintLess.l10_eq]
    simp only [iteB_ltI, iteB_leI, lenL_eq, atL_nat, hy, bindO_some', eqBoth, c1, c2, c4, if_true]
    by_cases hnx : n < x.length
    · obtain ⟨z, hz, hdz⟩ := drop_at (l := x) (i := n) hnx
      have c3 : ((n : Int) < (x.length : Int)) = True := eq_true (by omega)
      simp only [c3, if_true, hz, bindO_some', pair_eq]
      rw [iteB_dec, hd, hdz, along]
      by_cases h : y = z
      · rw [if_pos h, if_pos h, addI64 (n : Int) 1 (by omega) (by omega), show (n : Int) + 1 = ((n + 1 : Nat) : Int) by omega, next (n + 1) (by omega)]
        rw [show n + 1 + along (x.drop (n + 1)) (more.drop (i + 1)) = n + (along (x.drop (n + 1)) (more.drop (i + 1)) + 1) by omega]
      · rw [if_neg h, if_neg h, next n (by omega), hdz]
    · have c3 : ((n : Int) < (x.length : Int)) = False := eq_false (by omega)
      simp only [c3, if_false]
      have hd0 : x.drop n = [] := List.drop_eq_nil_of_le (by omega)
      rw [next n hn, hd0, hd]
      have : along [] (more.drop (i + 1)) = 0 := by cases more.drop (i + 1) <;> rfl
      rw [this]; rfl

theorem pref_less {b : ByteArray} (hb : 0 < b.size) {x : ByteArray × Int} (h : prefB b x = true) : prefB (cutS b 0 ((b.size : Int) - 1)) x = true := by
  unfold prefB at h ⊢
  rw [Bool.and_eq_true, decide_eq_true_eq] at h ⊢
  obtain ⟨h1, h2⟩ := h
  have h2 : cutS x.1 0 (lenS b) = b := of_decide_eq_true h2
  unfold lenS at h1 h2 ⊢
  have e1 : (b.size : Int) - 1 = ((b.size - 1 : Nat) : Int) := by omega
  have ec : ∀ (s : ByteArray) (n : Nat), toL (cutS s 0 (n : Int)) = (toL s).take n := fun s n => by
    have := cutS_toL s 0 n
    simpa using this
  have hs : (cutS b 0 ((b.size : Int) - 1)).size = b.size - 1 := by
    rw [e1, ← toL_len, ec, List.length_take, toL_len]; omega
  have hxs : b.size ≤ x.1.size := by omega
  refine ⟨by rw [hs]; omega, decide_eq_true ?_⟩
  rw [hs]
  apply toL_inj
  rw [e1, ec, ec]
  have : toL b = (toL x.1).take b.size := by rw [← ec, h2]
  rw [this, List.take_take]
  congr 1
  omega

theorem findH_all (l : HL) (b : ByteArray) (hB : hintsB l = true) : findH l b 10 = isort ltW (l.filter (prefB b)) := by
  have h10 := ((hintsB_iff l).1 hB).2.2
  have h1 := isort_len ltW (l.filter (prefB b))
  have h2 := List.length_filter_le (prefB b) l
  unfold findH
  rw [if_neg (by rw [hB]; simp), if_neg (by omega), List.take_of_length_le (by have : (10 : Int).toNat = 10 := rfl; omega)]

theorem hintLess (c : List Int) (hc : ∀ b ∈ c, 0 ≤ b ∧ b ≤ 255) : laws_FnHintLess c = some true := by
  rw [laws_FnHintLess_eq, iteB_ltI, lenL_eq]
  split
  · rfl
  · obtain ⟨l, b, w, e1, hl, hb, _, _⟩ := drawFind_ok c hc
    have hs := hl.small (by omega)
    have hlen := findH_len l b 10
    simp only [e1, bindO_some', iFind_ok l hs, sFind_ok l hs, sd_ok (findH l b 10) (by omega), iteB_notB, iteB_t, iteB_eqS]
    split
    · rfl
    · rename_i hne
      have hpos : 0 < b.size := by
        cases hz : b.size with
        | zero =>
          exfalso; apply hne
          apply toL_inj
          have : (toL b).length = 0 := by rw [toL_len]; exact hz
          rw [List.length_eq_zero_iff.1 this]; rfl
        | succ n => omega
      have h64 : lenS b - 1 = (b.size : Int) - 1 := rfl
      rw [lenS_eq, subI64 _ 1 (by omega) (by omega), iteB_okCut, if_pos (by omega)]
      have hlen2 := findH_len l (cutS b 0 ((b.size : Int) - 1)) 10
      have key := hL_l10 (findH l (cutS b 0 ((b.size : Int) - 1)) 10) (findH l b 10) (by omega) (by omega) _ 0 0 (Nat.zero_add _) (Nat.zero_le _)
      rw [show ((0 : Nat) : Int) = 0 from rfl] at key
      rw [key, List.drop_zero, List.drop_zero, along_sub, Nat.zero_add]
      · congr 1; exact decide_eq_true rfl
      · cases hB : hintsB l with
        | false =>
          have : findH l b 10 = [] := by unfold findH; rw [if_pos hB]
          rw [this]; exact List.nil_sublist _
        | true =>
          rw [findH_all l b hB, findH_all l _ hB]
          have : l.filter (prefB b) = (l.filter (prefB (cutS b 0 ((b.size : Int) - 1)))).filter (prefB b) := by
            rw [List.filter_filter]
            apply List.filter_congr
            intro x _
            cases hx : prefB b x with
            | false => simp
            | true => rw [pref_less hpos hx]; rfl
          rw [this, ← isort_filter]
          exact List.filter_sublist

theorem hintLess' (c : List Int) (hg : Good' (.sl (.int .u8)) c) : laws_FnHintLess c = some true := hintLess c (good_bytes hg)
end Go.E

set_option linter.unusedVariables false
namespace Go.E
open Go

/-! Plain: the laws 'FnHintFind' and 'FnHintAll'. -/

theorem ltF_iff (x y : ByteArray × Int) : ltF x y = true ↔ y.2 < x.2 ∨ (x.2 = y.2 ∧ ltS x.1 y.1 = true) := by
  unfold ltF; simp
theorem ltF_trans {x y z : ByteArray × Int} (h : ltF x y = true) (k : ltF y z = true) : ltF x z = true := by
  rw [ltF_iff] at h k ⊢
  rcases h with h | ⟨h, h'⟩ <;> rcases k with k | ⟨k, k'⟩
  · exact .inl (by omega)
  · exact .inl (by omega)
  · exact .inl (by omega)
  · exact .inr ⟨by omega, ltS_trans h' k'⟩
theorem ltF_total {x y : ByteArray × Int} (hne : x.1 ≠ y.1) (h : ¬ ltF x y = true) : ltF y x = true := by
  rw [ltF_iff] at h ⊢
  by_cases h1 : x.2 < y.2
  · exact .inl h1
  · by_cases h2 : x.2 = y.2
    · refine .inr ⟨h2.symm, ltS_ne hne ?_⟩
      cases h3 : ltS x.1 y.1 with
      | false => rfl
      | true => exact absurd (.inr ⟨h2, h3⟩) h
    · exact absurd (.inl (by omega)) h
theorem ltF_irrefl (x : ByteArray × Int) : ¬ ltF x x = true := fun h => by
  rw [ltF_iff] at h
  rcases h with h | ⟨_, h⟩
  · omega
  · rw [ltS_irrefl] at h; cases h
theorem ltF_w {x y : ByteArray × Int} (h : ltF x y = true) : y.2 ≤ x.2 := by
  rw [ltF_iff] at h; omega

theorem insR_mem' {α : Type} {lt : α → α → Bool} {x z : α} : ∀ l : List α, z = x ∨ z ∈ l → z ∈ insR lt x l
  | [], h => by simpa [insR] using h
  | y :: ys, h => by
    simp only [insR]
    split
    · rcases h with h | h
      · exact List.mem_cons_of_mem _ (insR_mem' ys (.inl h))
      · rcases List.mem_cons.1 h with rfl | h
        · simp
        · exact List.mem_cons_of_mem _ (insR_mem' ys (.inr h))
    · rcases h with rfl | h
      · simp
      · exact List.mem_cons_of_mem _ h

theorem fold_mem {α : Type} {lt : α → α → Bool} {z : α} : ∀ (l acc : List α), z ∈ l.foldl (fun acc x => insR lt x acc) acc ↔ z ∈ l ∨ z ∈ acc
  | [], acc => by simp
  | x :: l, acc => by
    rw [List.foldl_cons, fold_mem l]
    constructor
    · rintro (h | h)
      · exact .inl (List.mem_cons_of_mem _ h)
      · rcases insR_mem acc h with rfl | h
        · exact .inl (by simp)
        · exact .inr h
    · rintro (h | h)
      · rcases List.mem_cons.1 h with rfl | h
        · exact .inr (insR_mem' acc (.inl rfl))
        · exact .inl h
      · exact .inr (insR_mem' acc (.inr h))

theorem isort_mem {α : Type} {lt : α → α → Bool} {z : α} (l : List α) : z ∈ isort lt l ↔ z ∈ l := by
  unfold isort; rw [List.mem_reverse, fold_mem]; simp

theorem insF_pair {x : ByteArray × Int} : ∀ {l : HL}, (∀ y ∈ l, x.1 ≠ y.1) → l.Pairwise (fun a b => ltF b a = true) → (insR ltF x l).Pairwise (fun a b => ltF b a = true)
  | [], _, _ => by simp [insR]
  | y :: ys, hn, h => by
    have hp := List.pairwise_cons.1 h
    simp only [insR]
    split
    · rename_i hxy
      refine List.pairwise_cons.2 ⟨fun z hz => ?_, insF_pair (fun z hz => hn z (by simp [hz])) hp.2⟩
      rcases insR_mem ys hz with rfl | hz
      · exact hxy
      · exact hp.1 z hz
    · rename_i hxy
      have hyx := ltF_total (hn y (by simp)) hxy
      refine List.pairwise_cons.2 ⟨fun z hz => ?_, h⟩
      rcases List.mem_cons.1 hz with rfl | hz
      · exact hyx
      · exact ltF_trans (hp.1 z hz) hyx

theorem foldF_pair : ∀ (l acc : HL), l.Pairwise (fun x y => ltT x y = true) → (∀ y ∈ acc, ∀ x ∈ l, y.1 ≠ x.1) → acc.Pairwise (fun a b => ltF b a = true) → (l.foldl (fun acc x => insR ltF x acc) acc).Pairwise (fun a b => ltF b a = true)
  | [], acc, _, _, h => h
  | x :: l, acc, hl, hn, h => by
    have hp := List.pairwise_cons.1 hl
    rw [List.foldl_cons]
    refine foldF_pair l _ hp.2 (fun y hy z hz => ?_) (insF_pair (fun y hy => (hn y hy x (by simp)).symm) h)
    rcases insR_mem acc hy with rfl | hy
    · have := hp.1 z hz; unfold ltT at this; exact ltS_neq this
    · exact hn y hy z (by simp [hz])

/-- The heaviest first; as heavy: by text. -/
theorem isortW_pair {l : HL} (hl : l.Pairwise (fun x y => ltT x y = true)) : (isort ltW l).Pairwise (fun a b => ltF a b = true) := by
  rw [← isort_FW hl]
  unfold isort
  rw [List.pairwise_reverse]
  exact foldF_pair l [] hl (fun y hy => by cases hy) List.Pairwise.nil

/-- What 'some' comes to. -/
theorem hF_l15 (b : ByteArray) (many fits : Int) (i : Nat) (x l : HL) (y : ByteArray × Int) (hy : l[i]? = some y) (hx : x.length ≤ 1000) : ∀ (n k : Nat) (some' : Bool), k + n = x.length →
    laws_FnHintFind.l15 b many fits i some' k x l = laws_FnHintFind.j18 b many fits i (some' || (x.drop k).any (fun z => decide (z = y))) x l
  | 0, k, s, e => by
    have hd0 : x.drop k = [] := List.drop_eq_nil_of_le (by omega)
    rw [laws_FnHintFind.l15_eq, iteB_ltI, lenL_eq, if_neg (by omega), hd0]; simp
  | n + 1, k, s, e => by
    obtain ⟨z, hz, hd⟩ := drop_at (l := x) (i := k) (by omega)
    have c1 : ((k : Int) < (x.length : Int)) = True := eq_true (by omega)
    have c2 : ((0 : Int) ≤ (k : Int)) = True := eq_true (by omega)
    rw [laws_FnHintFind.l15_eq]
    simp only [iteB_ltI, iteB_leI, lenL_eq, atL_nat, hz, hy, bindO_some', eqBoth, pair_eq, c1, c2, if_true]
    rw [addI64 (k : Int) 1 (by omega) (by omega), show (k : Int) + 1 = ((k + 1 : Nat) : Int) by omega, hd, List.any_cons]
    cases s with
    | true => rw [iteB_t, hF_l15 b many fits i x l y hy hx n (k + 1) true (by omega)]; simp
    | false => rw [iteB_f, hF_l15 b many fits i x l y hy hx n (k + 1) _ (by omega)]; simp

theorem hF_l21 (many fits : Int) (x : HL) (hx : x.length ≤ 1000) (hs : x.Pairwise (fun a b => ltF a b = true)) : ∀ (n i : Nat), i + 1 + n = x.length ∨ (n = 0 ∧ x.length ≤ i + 1) → laws_FnHintFind.l21 many fits ((i + 1 : Nat) : Int) x = laws_FnHintFind.j25 many fits x
  | 0, i, e => by
    rw [laws_FnHintFind.l21_eq, iteB_ltI, lenL_eq, if_neg (by omega)]
  | n + 1, i, e => by
    have e : i + 1 + (n + 1) = x.length := by omega
    have hi := List.getElem?_eq_getElem (l := x) (i := i) (by omega)
    have hj := List.getElem?_eq_getElem (l := x) (i := i + 1) (by omega)
    have hF := (List.pairwise_iff_getElem.1 hs) i (i + 1) (by omega) (by omega) (by omega)
    have es : subI Go.IntKind.i64 ((i + 1 : Nat) : Int) 1 = (i : Int) := by rw [subI64 _ 1 (by omega) (by omega)]; omega
    have c1 : (((i + 1 : Nat) : Int) < (x.length : Int)) = True := eq_true (by omega)
    have c2 : ((0 : Int) ≤ ((i + 1 : Nat) : Int)) = True := eq_true (by omega)
    have c3 : ((i : Int) < (x.length : Int)) = True := eq_true (by omega)
    have c4 : ((0 : Int) ≤ (i : Int)) = True := eq_true (by omega)
    have next : laws_FnHintFind.l21 many fits (addI Go.IntKind.i64 ((i + 1 : Nat) : Int) 1) x = laws_FnHintFind.j25 many fits x := by
      rw [addI64 _ 1 (by omega) (by omega), show ((i + 1 : Nat) : Int) + 1 = ((i + 1 + 1 : Nat) : Int) by omega]
      exact hF_l21 many fits x hx hs n (i + 1) (by omega)
    rw [laws_FnHintFind.l21_eq]
    simp only [es, iteB_ltI, iteB_leI, lenL_eq, atL_nat, hi, hj, bindO_some', c1, c2, c3, c4, if_true, iteB_eqI, iteB_notB, next]
    rw [ltF_iff] at hF
    rw [if_neg (by omega)]
    split
    · rename_i heq
      have : ltS x[i].1 x[i + 1].1 = true := by rcases hF with h | h; · omega
                                                · exact h.2
      rw [this, iteB_t]
    · rfl

theorem hF_l9 (b : ByteArray) (many : Int) (l : HL) (hm : 0 ≤ many) (hl : l.length ≤ 10) (hs : l.Pairwise (fun x y => ltT x y = true)) : ∀ (n i fits : Nat), i + n = l.length → fits ≤ i →
    laws_FnHintFind.l9 b many (fits : Int) i ((isort ltW (l.filter (prefB b))).take many.toNat) l = laws_FnHintFind.j20 many ((fits + ((l.drop i).filter (prefB b)).length : Nat) : Int) ((isort ltW (l.filter (prefB b))).take many.toNat)
  | 0, i, fits, e, hf => by
    have hd0 : l.drop i = [] := List.drop_eq_nil_of_le (by omega)
    rw [laws_FnHintFind.l9_eq, iteB_ltI, lenL_eq, if_neg (by omega), hd0]; rfl
  | n + 1, i, fits, e, hf => by
    obtain ⟨y, hy, hd⟩ := drop_at (l := l) (i := i) (by omega)
    have hyl := List.mem_of_getElem? hy
    have hxl : ((isort ltW (l.filter (prefB b))).take many.toNat).length ≤ 10 := by
      have h1 := isort_len ltW (l.filter (prefB b))
      have h2 := List.length_filter_le (prefB b) l
      rw [List.length_take]; omega
    have next : ∀ q : Nat, q ≤ i + 1 → laws_FnHintFind.j10 b many (q : Int) i ((isort ltW (l.filter (prefB b))).take many.toNat) l = laws_FnHintFind.j20 many ((q + ((l.drop (i + 1)).filter (prefB b)).length : Nat) : Int) ((isort ltW (l.filter (prefB b))).take many.toNat) := fun q hq => by
      rw [laws_FnHintFind.j10_eq, addI64 (i : Int) 1 (by omega) (by omega), show (i : Int) + 1 = ((i + 1 : Nat) : Int) by omega]
      exact hF_l9 b many l hm hl hs n (i + 1) q (by omega) hq
    have c1 : ((i : Int) < (l.length : Int)) = True := eq_true (by omega)
    rw [laws_FnHintFind.l9_eq]
    simp only [iteB_ltI, lenL_eq, atL_nat, hy, bindO_some', c1, if_true, iteB_okCut, iteB_notB]
    rw [hd, List.filter_cons]
    by_cases h1 : lenS y.1 < lenS b
    · have hp : prefB b y = false := by unfold prefB; rw [decide_eq_false (by omega)]; rfl
      rw [if_pos h1, next fits (by omega), hp]; rfl
    · rw [if_neg h1, if_pos ⟨by omega, by unfold lenS; omega, by omega⟩]
      cases h2 : eqS (cutS y.1 0 (lenS b)) b with
      | false =>
        have hp : prefB b y = false := by unfold prefB; rw [h2]; simp
        rw [iteB_f, next fits (by omega), hp]; rfl
      | true =>
        have hp : prefB b y = true := by unfold prefB; rw [h2, decide_eq_true (by omega)]; rfl
        have h15 := hF_l15 b many ((fits + 1 : Nat) : Int) i ((isort ltW (l.filter (prefB b))).take many.toNat) l y hy (by omega) _ 0 false (Nat.zero_add _)
        rw [show ((0 : Nat) : Int) = 0 from rfl] at h15
        rw [iteB_t, addI64 (fits : Int) 1 (by omega) (by omega), show (fits : Int) + 1 = ((fits + 1 : Nat) : Int) by omega, h15, List.drop_zero, Bool.false_or, hp]
        simp only [if_true, List.length_cons]
        rw [show fits + (((l.drop (i + 1)).filter (prefB b)).length + 1) = fits + 1 + ((l.drop (i + 1)).filter (prefB b)).length by omega, ← next (fits + 1) (by omega), laws_FnHintFind.j18_eq, iteB_notB]
        cases hsome : ((isort ltW (l.filter (prefB b))).take many.toNat).any (fun z => decide (z = y)) with
        | true => rfl
        | false =>
          have hyS : y ∈ isort ltW (l.filter (prefB b)) := (isort_mem _).2 (List.mem_filter.2 ⟨hyl, hp⟩)
          have hnx : y ∉ (isort ltW (l.filter (prefB b))).take many.toNat := fun hmem => by
            rw [List.any_eq_false] at hsome
            exact hsome y hmem (decide_eq_true rfl)
          have hyd : y ∈ (isort ltW (l.filter (prefB b))).drop many.toNat := by
            rw [← List.take_append_drop many.toNat (isort ltW (l.filter (prefB b)))] at hyS
            rcases List.mem_append.1 hyS with h | h
            · exact absurd h hnx
            · exact h
          have hSp := isortW_pair (hs.filter (prefB b))
          rw [← List.take_append_drop many.toNat (isort ltW (l.filter (prefB b))), List.pairwise_append] at hSp
          have hlt : many.toNat < (isort ltW (l.filter (prefB b))).length := by
            have := List.length_pos_of_mem hyd
            rw [List.length_drop] at this; omega
          have hxlen : ((isort ltW (l.filter (prefB b))).take many.toNat).length = many.toNat := by rw [List.length_take]; omega
          rw [iteB_f, iteB_ltI, lenL_eq, hxlen, if_neg (by omega), iteB_ltI]
          by_cases h0 : (0 : Int) < ((many.toNat : Nat) : Int)
          · have es : subI Go.IntKind.i64 ((many.toNat : Nat) : Int) 1 = ((many.toNat - 1 : Nat) : Int) := by rw [subI64 _ 1 (by omega) (by omega)]; omega
            have hlast := List.getElem?_eq_getElem (l := (isort ltW (l.filter (prefB b))).take many.toNat) (i := many.toNat - 1) (by omega)
            rw [if_pos h0, es, iteB_leI, if_pos (by omega), iteB_ltI, if_pos (by omega), atL_nat, hlast, bindO_some', atL_nat, hy, bindO_some', iteB_ltI]
            have := ltF_w (hSp.2.2 _ (List.getElem_mem (l := (isort ltW (l.filter (prefB b))).take many.toNat) (n := many.toNat - 1) (by omega)) y hyd)
            rw [if_neg (by omega)]
          · rw [if_neg h0]

theorem hintFind (c : List Int) (hc : ∀ b ∈ c, 0 ≤ b ∧ b ≤ 255) : laws_FnHintFind c = some true := by
  rw [laws_FnHintFind_eq, iteB_ltI, lenL_eq]
  split
  · rfl
  · obtain ⟨l, b, w, e1, hl, hb, hw0, hw1⟩ := drawFind_ok c hc
    have hs := hl.small (by omega)
    have hlen := findH_len l b w
    simp only [e1, bindO_some', iFind_ok l hs, sFind_ok l hs, sd_ok (findH l b w) (by omega), iteB_notB, iteB_t, sHints_ok l hs]
    cases hB : hintsB l with
    | false => rfl
    | true =>
      obtain ⟨_, hsort, h10⟩ := (hintsB_iff l).1 hB
      rw [iteB_t, iteB_ltI]
      by_cases hw : w < 0
      · rw [if_pos hw]
      · rw [if_neg hw]
        have hfind : findH l b w = (isort ltW (l.filter (prefB b))).take w.toNat := by unfold findH; rw [if_neg (by rw [hB]; simp), if_neg hw]
        rw [hfind] at hlen ⊢
        have h9 := hF_l9 b w l (by omega) h10 hsort l.length 0 0 (by omega) (Nat.le_refl _)
        rw [show ((0 : Nat) : Int) = 0 from rfl] at h9
        rw [h9, List.drop_zero, laws_FnHintFind.j20_eq]
        have hSp := (isortW_pair (hsort.filter (prefB b)))
        have hxp : ((isort ltW (l.filter (prefB b))).take w.toNat).Pairwise (fun a b => ltF a b = true) := by
          rw [← List.take_append_drop w.toNat (isort ltW (l.filter (prefB b))), List.pairwise_append] at hSp
          exact hSp.1
        have h21 := hF_l21 w ((0 + (l.filter (prefB b)).length : Nat) : Int) _ (by omega) hxp (((isort ltW (l.filter (prefB b))).take w.toNat).length - 1) 0 (by omega)
        rw [show ((0 + 1 : Nat) : Int) = 1 from rfl] at h21
        have hil := isort_len ltW (l.filter (prefB b))
        have hxl : ((isort ltW (l.filter (prefB b))).take w.toNat).length ≤ w.toNat ∧ ((isort ltW (l.filter (prefB b))).take w.toNat).length ≤ (l.filter (prefB b)).length := by
          rw [List.length_take]; omega
        rw [h21, laws_FnHintFind.j25_eq, iteB_leI, lenL_eq, if_pos (by omega)]
        congr 1
        unfold leI
        exact decide_eq_true (by omega)

theorem hintFind' (c : List Int) (hg : Good' (.sl (.int .u8)) c) : laws_FnHintFind c = some true := hintFind c (good_bytes hg)

theorem sorted_ext : ∀ {x y : HL}, x.Pairwise (fun a b => ltT a b = true) → y.Pairwise (fun a b => ltT a b = true) → (∀ z, z ∈ x ↔ z ∈ y) → x = y
  | [], [], _, _, _ => rfl
  | [], b :: ys, _, _, h => by have := (h b).2 (by simp); cases this
  | a :: xs, [], _, _, h => by have := (h a).1 (by simp); cases this
  | a :: xs, b :: ys, hx, hy, h => by
    have px := List.pairwise_cons.1 hx
    have py := List.pairwise_cons.1 hy
    have irr : ∀ z : ByteArray × Int, ¬ ltT z z = true := fun z hz => by unfold ltT at hz; rw [ltS_irrefl] at hz; cases hz
    have hab : a = b := by
      rcases List.mem_cons.1 ((h a).1 (by simp)) with h1 | h1
      · exact h1
      · rcases List.mem_cons.1 ((h b).2 (by simp)) with h2 | h2
        · exact h2.symm
        · have := ltT_trans _ _ _ (px.1 b h2) (py.1 a h1)
          exact absurd this (irr a)
    subst hab
    congr 1
    refine sorted_ext px.2 py.2 (fun z => ⟨fun hz => ?_, fun hz => ?_⟩)
    · rcases List.mem_cons.1 ((h z).1 (List.mem_cons_of_mem _ hz)) with rfl | h1
      · exact absurd (px.1 _ hz) (irr _)
      · exact h1
    · rcases List.mem_cons.1 ((h z).2 (List.mem_cons_of_mem _ hz)) with rfl | h1
      · exact absurd (py.1 _ hz) (irr _)
      · exact h1

theorem all_l9 (l x : HL) (hB : hintsB l = true) (hx : x.Pairwise (fun a b => ltF a b = true)) (hm : ∀ z, z ∈ x ↔ z ∈ l) (hxl : x.length ≤ 10) (hs : ∀ z ∈ l, z.1.size ≤ 100) : ∀ (n i : Nat) (acc : HL), i + n = x.length → acc.length = i → hintsB acc = true → (∀ z, z ∈ acc ↔ z ∈ x.take i) →
    laws_FnHintAll.l9 i acc x l = some true
  | 0, i, acc, e, ha, hA, hmem => by
    have : acc = l := sorted_ext ((hintsB_iff _).1 hA).2.1 ((hintsB_iff _).1 hB).2.1 (fun z => by
      rw [hmem, List.take_of_length_le (by omega), hm])
    have h10 := ((hintsB_iff _).1 hB).2.2
    rw [laws_FnHintAll.l9_eq, iteB_ltI, lenL_eq, if_neg (by omega), laws_FnHintAll.j15_eq, this, sd_ok l (by omega), bindO_some']
  | n + 1, i, acc, e, ha, hA, hmem => by
    obtain ⟨y, hy, hd⟩ := drop_at (l := x) (i := i) (by omega)
    have hyl : y ∈ l := (hm y).1 (List.mem_of_getElem? hy)
    have hyB := ((hintsB_iff _).1 hB).1 y hyl
    have hsort := ((hintsB_iff _).1 hB).2.1
    have hfew : Few 10 acc := ⟨by omega, fun z hz => hs z ((hm z).1 (List.mem_of_mem_take ((hmem z).1 hz)))⟩
    have hnew : ∀ z ∈ acc, z.1 ≠ y.1 := fun z hz ht => by
      have hzx := (hmem z).1 hz
      have hzl : z ∈ l := (hm z).1 (List.mem_of_mem_take hzx)
      have hzy : z = y := by
        obtain ⟨p, hp⟩ := List.mem_iff_getElem?.1 hzl
        obtain ⟨q, hq⟩ := List.mem_iff_getElem?.1 hyl
        have h1 := place_here hsort hp ht
        have h2 := place_here hsort hq rfl
        have : p = q := h1.symm.trans h2
        subst this
        rw [hp] at hq; exact Option.some.inj hq
      subst hzy
      obtain ⟨j, hj, hje⟩ := List.getElem_of_mem hzx
      rw [List.length_take] at hj
      have hi : i < x.length := by omega
      have := (List.pairwise_iff_getElem.1 hx) j i (by omega) hi (by omega)
      rw [List.getElem_take] at hje
      have hyi : x[i] = z := by rw [List.getElem?_eq_getElem hi] at hy; exact Option.some.inj hy
      rw [hje, hyi] at this
      exact ltF_irrefl z this
    have hadd := addH_new hA hnew y.2
    have hyB' : hintB (y.1, y.2) = true := hyB
    rw [if_neg (by rw [hyB']; simp), if_neg (by omega)] at hadd
    have c1 : ((i : Int) < (x.length : Int)) = True := eq_true (by omega)
    have c2 : ((0 : Int) ≤ (i : Int)) = True := eq_true (by omega)
    have hysz := hs y hyl
    rw [laws_FnHintAll.l9_eq]
    simp only [iteB_ltI, iteB_leI, lenL_eq, atL_nat, hy, bindO_some', c1, c2, if_true, iAdd_ok acc (hfew.small (by omega)) y.1 (by omega) y.2, hadd, iteB_notB, iteB_t]
    rw [addI64 (i : Int) 1 (by omega) (by omega), show (i : Int) + 1 = ((i + 1 : Nat) : Int) by omega]
    refine all_l9 l x hB hx hm hxl hs n (i + 1) _ (by omega) ?_ (ins_hints hA hnew hyB' (by omega)) (fun z => ?_)
    · unfold insH; simp; have := place_le acc y.1; omega
    · have ht : x.take (i + 1) = x.take i ++ [y] := by rw [List.take_add_one, hy]; rfl
      rw [ht, List.mem_append, List.mem_singleton]
      constructor
      · intro hz
        rcases insH_mem hz with hz | hz
        · exact .inl ((hmem z).1 hz)
        · exact .inr hz
      · intro hz
        unfold insH
        rcases hz with hz | hz
        · have hz := (hmem z).2 hz
          rw [← List.take_append_drop (placeL acc y.1) acc] at hz
          rcases List.mem_append.1 hz with hz | hz
          · exact List.mem_append_left _ hz
          · exact List.mem_append_right _ (List.mem_cons_of_mem _ hz)
        · subst hz; exact List.mem_append_right _ (by simp)

theorem hintAll (c : List Int) (hc : ∀ b ∈ c, 0 ≤ b ∧ b ≤ 255) : laws_FnHintAll c = some true := by
  rw [laws_FnHintAll_eq, iteB_ltI, lenL_eq]
  split
  · rfl
  · obtain ⟨l, b, w, e1, hl, hb, _, _⟩ := drawFind_ok c hc
    have hs := hl.small (by omega)
    have hlen := findH_len l (bs []) 10
    simp only [e1, bindO_some', iFind_ok l hs, sFind_ok l hs, sd_ok (findH l (bs []) 10) (by omega), iteB_notB, iteB_t, sHints_ok l hs]
    cases hB : hintsB l with
    | false => rfl
    | true =>
      obtain ⟨_, hsort, h10⟩ := (hintsB_iff l).1 hB
      rw [iteB_t]
      have hp : l.filter (prefB (bs [])) = l := by
        rw [List.filter_eq_self]
        intro x _
        unfold prefB
        have e0 : lenS (bs []) = 0 := rfl
        have hcut : cutS x.1 0 0 = bs [] := by
          apply toL_inj
          have := cutS_toL x.1 0 0
          rw [show ((0 : Nat) : Int) = 0 from rfl] at this
          rw [this]; simp; rfl
        rw [e0, hcut]
        have : (0 : Int) ≤ lenS x.1 := by unfold lenS; omega
        rw [decide_eq_true this]; rfl
      have hall := findH_all l (bs []) hB
      rw [hp] at hall
      rw [hall]
      have := all_l9 l (isort ltW l) hB (isortW_pair hsort) (fun z => isort_mem l) (by rw [isort_len]; omega) hl.2 (isort ltW l).length 0 [] (by omega) rfl (by decide) (fun z => by simp)
      exact this

theorem hintAll' (c : List Int) (hg : Good' (.sl (.int .u8)) c) : laws_FnHintAll c = some true := hintAll c (good_bytes hg)
end Go.E


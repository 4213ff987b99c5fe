/- A part of the proof: PSnip. -/
import Derived.Test.YtphnkoicfehalaaDoorGSnip
import Derived.Test.YtphnkoicfehalaaDoorED
import Derived.OpenShut
set_option linter.unusedVariables false
namespace Go.E
open Go

/-! Plain: the functions over a byte. -/

def upperB (b : Int) : Bool := decide (65 ≤ b ∧ b ≤ 90)
def lowerB (b : Int) : Bool := decide (97 ≤ b ∧ b ≤ 122)
def digitB (b : Int) : Bool := decide (48 ≤ b ∧ b ≤ 57)
def alnumB (b : Int) : Bool := upperB b || lowerB b || digitB b
def smallB (b : Int) : Int := if 65 ≤ b ∧ b ≤ 90 then b + 32 else b

theorem two (a b c d : Int) : iteB (leI a b) (some (leI c d)) (some Bool.false) = some (decide (a ≤ b ∧ c ≤ d)) := by
  rw [iteB_leI]; unfold leI; by_cases h : a ≤ b <;> simp [h]

theorem upper_ok (b : Int) : impl_upper b = some (upperB b) := by rw [impl_upper_eq, two]; rfl
theorem lower_ok (b : Int) : impl_lower b = some (lowerB b) := by rw [impl_lower_eq, two]; rfl
theorem digit_ok (b : Int) : impl_digit b = some (digitB b) := by rw [impl_digit_eq, two]; rfl
theorem within_ok (n a b : Int) : impl_within (n, (a, b)) = some (decide (a ≤ n ∧ n ≤ b)) := by rw [impl_within_eq, two]
theorem l1In_ok (n a b : Int) : spec_l1In (n, (a, b)) = some (decide (a ≤ n ∧ n ≤ b)) := by rw [spec_l1In_eq, two]
theorem wordByte_ok (b : Int) : impl_wordByte b = some (alnumB b) := by
  rw [impl_wordByte_eq, upper_ok, lower_ok, digit_ok]
  simp only [bindO_some', alnumB]
  cases upperB b <;> cases lowerB b <;> rfl

/-- A loop that looks whether all is well. -/
theorem loop_all {l : Int → Option Bool} {n : Nat} {p : Nat → Bool} {fin : Bool} (h : ∀ i : Nat, i < n → l i = if p i = true then l ((i + 1 : Nat) : Int) else some false) (h' : l n = some fin) :
    ∀ k i : Nat, i + k = n → l i = some (((List.range' i k).all p) && fin)
  | 0, i, e => by simp at e; subst e; simpa using h'
  | k + 1, i, e => by
    rw [h i (by omega), List.range'_succ, List.all_cons]
    cases hp : p i with
    | true => rw [if_pos rfl, loop_all h h' k (i + 1) (by omega)]; simp
    | false => simp

def byteAt (s : ByteArray) (i : Nat) : Int := ((s.data[i]?).map fun b => (b.toNat : Int)).getD 0

theorem atS_nat (s : ByteArray) (i : Nat) (h : i < s.size) : atS s i = some (byteAt s i) := by
  have h' : i < s.data.size := h
  unfold atS byteAt
  rw [if_pos (by omega)]
  simp [Array.getElem?_eq_getElem h']

/-- A text that is no greater than memory. -/
def Fits (s : ByteArray) : Prop := s.size ≤ 1048576

theorem isWord_ok (s : ByteArray) (hs : Fits s) : impl_isWord s = some ((List.range' 0 s.size).all (fun i => alnumB (byteAt s i)) && !decide (s = bs [])) := by
  rw [impl_isWord_eq]
  have := loop_all (l := fun i => impl_isWord.l2 s (lenS s) i) (n := s.size) (p := fun i => alnumB (byteAt s i)) (fin := !decide (s = bs [])) (fun i hi => ?_) ?_ s.size 0 (by omega)
  · exact this
  · rw [impl_isWord.l2_eq, iteB_ltI, lenS_eq, if_pos (by omega), atS_nat s i hi, bindO_some', wordByte_ok, bindO_some', iteB_notB]
    unfold Fits at hs
    rw [addI64 _ _ (by omega) (by omega)]
    unfold iteB
    rfl
  · rw [impl_isWord.l2_eq, iteB_ltI, lenS_eq, if_neg (by omega), impl_isWord.j7_eq]; rfl
end Go.E

set_option linter.unusedVariables false
namespace Go.E
open Go

/-! Plain: strings.Split at spaces. -/

def toB (l : List UInt8) : ByteArray := ⟨l.toArray⟩
def toL (s : ByteArray) : List UInt8 := s.data.toList
theorem toB_toL (s : ByteArray) : toB (toL s) = s := by cases s; rfl
theorem toL_toB (l : List UInt8) : toL (toB l) = l := rfl
theorem toL_len (s : ByteArray) : (toL s).length = s.size := rfl

def splitL : List UInt8 → List (List UInt8)
  | [] => [[]]
  | b :: r => if b = 32 then [] :: splitL r else match splitL r with
    | w :: ws => (b :: w) :: ws
    | [] => [[b]]

theorem splitL_none {u : List UInt8} (h : (32 : UInt8) ∉ u) : splitL u = [u] := by
  induction u with
  | nil => rfl
  | cons b r ih =>
    simp only [List.mem_cons, not_or] at h
    simp only [splitL]
    rw [if_neg (fun e => h.1 e.symm), ih h.2]

theorem splitL_app {u r : List UInt8} (h : (32 : UInt8) ∉ u) : splitL (u ++ 32 :: r) = u :: splitL r := by
  induction u with
  | nil => simp [splitL]
  | cons b u ih =>
    simp only [List.mem_cons, not_or] at h
    rw [List.cons_append]
    simp only [splitL]
    rw [if_neg (fun e => h.1 e.symm), ih h.2]

theorem index_cases (c : UInt8) : ∀ l : List UInt8, (c ∉ l ∧ Lib.indexByte l c = -1) ∨ ∃ u r, l = u ++ c :: r ∧ c ∉ u ∧ Lib.indexByte l c = (u.length : Nat)
  | [] => .inl ⟨by simp, rfl⟩
  | b :: l => by
    by_cases hb : b = c
    · subst hb
      exact .inr ⟨[], l, rfl, by simp, by simp [Lib.indexByte]⟩
    · rcases index_cases c l with ⟨h1, h2⟩ | ⟨u, r, rfl, h1, h2⟩
      · exact .inl ⟨by simp [h1, Ne.symm hb], by simp [Lib.indexByte, hb, h2]⟩
      · refine .inr ⟨b :: u, r, rfl, by simp [h1, Ne.symm hb], ?_⟩
        have : Lib.indexByte (u ++ c :: r) c ≠ -1 := by rw [h2]; omega
        simp only [Lib.indexByte]
        rw [if_neg (by simpa using hb), if_neg (by simpa using this), h2]
        simp

theorem cutS_toL (s : ByteArray) (i j : Nat) : toL (cutS s (i : Int) (j : Int)) = ((toL s).drop i).take (j - i) := by
  unfold cutS toL
  simp [ByteArray.data_extract, Array.toList_extract]

theorem index_ok (s : ByteArray) : strings_Index (s, bs [32]) = if (bs [32] : ByteArray) = s then some 0 else some (Lib.indexByte (toL s) 32) := by
  rw [strings_Index_eq, internal_stringslite_Index_eq]
  simp only [iteB_eqI, iteB_eqS]
  rw [if_neg (by decide)]
  by_cases h : (bs [32] : ByteArray) = s
  · rw [if_pos h, if_pos h]; rfl
  · rw [if_neg h, if_neg h, if_pos (by decide)]
    have : atS (bs [32]) 0 = some 32 := by decide
    rw [this, bindO_some', internal_stringslite_IndexByte_eq]
    rfl

theorem index_ok' (s : ByteArray) : strings_Index (s, bs [32]) = some (Lib.indexByte (toL s) 32) := by
  rw [index_ok]
  split
  · rename_i h; rw [← h]; rfl
  · rfl
end Go.E

set_option linter.unusedVariables false
namespace Go.E
open Go

/-- The loop of genSplit. -/
theorem split_loop : ∀ (k : Nat) (s : ByteArray) (i c : Nat) (a : List ByteArray), i + k = c → (toL s).count 32 = k → a.length = c + 1 → c < 1048578 → s.size ≤ 1048576 →
    strings_genSplit.l11 s (bs [32]) 0 (c : Int) (i : Int) a = some (a.take i ++ (splitL (toL s)).map toB)
  | 0, s, i, c, a, hi, hc, ha, hlt, hs => by
    have e : i = c := by omega
    subst e
    have hn : (32 : UInt8) ∉ toL s := by rw [← List.count_eq_zero]; exact hc
    rw [strings_genSplit.l11_eq, iteB_ltI, if_neg (by omega), strings_genSplit.j17_eq, iteB_leI, if_pos (by omega), iteB_ltI, lenL_eq, if_pos (by omega), atL_nat, List.getElem?_eq_getElem (by omega), bindO_some', addI64 _ _ (by omega) (by omega), iteB_okCut, lenL_eq]
    have hl : (setL a (i : Int) s).length = i + 1 := by simp [setL, ha]
    rw [if_pos ⟨by omega, by omega, by omega⟩, splitL_none hn]
    simp only [cutL, setL]
    congr 1
    rw [show ((i : Int) + 1).toNat = i + 1 by omega, show (0 : Int).toNat = 0 by rfl, List.drop_zero]
    apply List.ext_getElem?
    intro j
    simp only [Int.toNat_natCast, List.map_cons, List.map_nil, toB_toL]
    by_cases hj : j < i
    · rw [List.getElem?_take, if_pos (by omega), List.getElem?_set, if_neg (by omega), List.getElem?_append_left (by simp; omega), List.getElem?_take, if_pos hj]
    · by_cases hj' : j = i
      · subst hj'
        rw [List.getElem?_take, if_pos (by omega), List.getElem?_set, if_pos rfl, if_pos (by omega), List.getElem?_append_right (by simp; omega)]
        simp [show min j a.length = j by omega]
      · rw [List.getElem?_take, if_neg (by omega), List.getElem?_eq_none]
        simp; omega
  | k + 1, s, i, c, a, hi, hc, ha, hlt, hs => by
    rcases index_cases 32 (toL s) with ⟨h1, _⟩ | ⟨u, r, h1, h2, h3⟩
    · rw [List.count_eq_zero.2 h1] at hc; cases hc
    · have hsz : s.size = u.length + (r.length + 1) := by rw [← toL_len, h1]; simp
      rw [strings_genSplit.l11_eq, iteB_ltI, if_pos (by omega), index_ok', bindO_some', h3, iteB_ltI, if_neg (by omega), iteB_okCut, lenS_eq, addI64 _ _ (by omega) (by omega), if_pos ⟨by omega, by omega, by omega⟩,
        iteB_leI, if_pos (by omega), iteB_ltI, lenL_eq, if_pos (by omega), atL_nat, List.getElem?_eq_getElem (by omega), bindO_some', iteB_okCut]
      have hb : lenS (bs [32]) = 1 := rfl
      rw [hb, addI64 _ _ (by omega) (by omega), if_pos ⟨by omega, by omega, by omega⟩, addI64 _ _ (by omega) (by omega)]
      have e1 : toL (cutS s ((u.length : Int) + 1) (s.size : Int)) = r := by
        rw [show ((u.length : Int) + 1) = ((u.length + 1 : Nat) : Int) by omega, cutS_toL, h1, hsz]
        have ed : (u ++ 32 :: r).drop (u.length + 1) = r := by
          rw [show u.length + 1 = (u ++ [(32 : UInt8)]).length by simp, show u ++ 32 :: r = (u ++ [(32 : UInt8)]) ++ r by simp, List.drop_left]
        rw [ed]
        exact List.take_of_length_le (by omega)
      have e2 : cutS s 0 ((u.length : Int) + 0) = toB u := by
        have : toL (cutS s ((0 : Nat) : Int) ((u.length : Nat) : Int)) = u := by rw [cutS_toL, h1]; simp
        rw [← toB_toL (cutS s 0 ((u.length : Int) + 0))]
        congr 1
      have hcnt : (toL (cutS s ((u.length : Int) + 1) (s.size : Int))).count 32 = k := by
        rw [e1]; rw [h1, List.count_append, List.count_eq_zero.2 h2] at hc; simp at hc; omega
      rw [show ((i : Int) + 1) = ((i + 1 : Nat) : Int) by omega, split_loop k _ (i + 1) c _ (by omega) hcnt (by simp [setL, ha]) hlt (by rw [← toL_len, e1]; omega), e1, e2, h1, splitL_app h2]
      congr 1
      simp only [setL, Int.toNat_natCast, List.map_cons]
      rw [List.take_set, List.take_add_one, List.getElem?_eq_getElem (by omega)]
      simp only [Option.toList_some]
      rw [List.set_append_right _ _ (by simp; omega)]
      simp [show min i a.length = i by omega]
end Go.E

set_option linter.unusedVariables false
namespace Go.E
open Go

theorem split_ok (s : ByteArray) (hs : s.size ≤ 1048576) : strings_Split (s, bs [32]) = some ((splitL (toL s)).map toB) := by
  have hcnt : (toL s).count 32 ≤ s.size := by rw [← toL_len]; exact List.count_le_length
  rw [strings_Split_eq, strings_genSplit_eq, iteB_eqI, if_neg (by decide), iteB_eqS, if_neg (by decide), iteB_ltI, if_pos (by decide), strings_Count_eq, iteB_eqI, if_neg (by decide), iteB_eqI, if_pos (by decide)]
  have h0 : atS (bs [32]) 0 = some 32 := by decide
  have h1 : internal_bytealg_CountString (s, 32) = some (((toL s).count 32 : Nat) : Int) := rfl
  rw [h0, bindO_some', h1, bindO_some', bindO_some', addI64 _ _ (by omega) (by omega), strings_genSplit.j7_eq, iteB_eqI, if_pos rfl, iteB_roomN]
  have hm : minI ((((toL s).count 32 : Nat) : Int) + 1) (addI .i64 (lenS s) 1) = (((toL s).count 32 + 1 : Nat) : Int) := by
    rw [lenS_eq, addI64 _ _ (by omega) (by omega)]; unfold minI; rw [if_neg (by omega)]; omega
  rw [hm, if_pos ⟨by omega, by unfold roomMax; omega⟩, subI64 _ _ (by omega) (by omega)]
  have := split_loop ((toL s).count 32) s 0 ((toL s).count 32) (repL (((toL s).count 32 + 1 : Nat) : Int) (bs [])) (by omega) rfl (by simp [repL]) (by omega) hs
  rw [show (((toL s).count 32 + 1 : Nat) : Int) - 1 = (((toL s).count 32 : Nat) : Int) by omega]
  rw [show ((0 : Nat) : Int) = 0 from rfl] at this
  rw [this]; rfl
end Go.E

set_option linter.unusedVariables false
namespace Go.E
open Go

def alB (b : UInt8) : Bool := alnumB (b.toNat : Int)

theorem range_all (s : ByteArray) (q : Int → Bool) : (List.range' 0 s.size).all (fun i => q (byteAt s i)) = (toL s).all (fun b => q (b.toNat : Int)) := by
  rw [Bool.eq_iff_iff, List.all_eq_true, List.all_eq_true]
  constructor
  · intro h b hb
    obtain ⟨i, hi, rfl⟩ := List.getElem_of_mem hb
    have hi' : i < s.size := hi
    have := h i (by simp [List.mem_range']; omega)
    unfold byteAt at this
    have e : s.data[i]? = some (toL s)[i] := by
      unfold toL; rw [Array.getElem?_eq_getElem hi']; simp
    rw [e] at this; exact this
  · intro h i hi
    have hi' : i < s.size := by simp [List.mem_range'] at hi; omega
    have e : s.data[i]? = some ((toL s)[i]'hi') := by
      unfold toL; rw [Array.getElem?_eq_getElem hi']; simp
    unfold byteAt
    rw [e]
    exact h _ (List.getElem_mem _)

def wordL (w : List UInt8) : Bool := w.all alB && !w.isEmpty

theorem isWord_L (s : ByteArray) (hs : s.size ≤ 1048576) : impl_isWord s = some (wordL (toL s)) := by
  rw [isWord_ok s hs, range_all]
  congr 1
  unfold wordL
  congr 1
  rw [Bool.eq_iff_iff]
  simp only [Bool.not_eq_true', decide_eq_false_iff_not]
  constructor
  · intro h
    cases hl : toL s with
    | nil => exact absurd (by rw [← toB_toL s, hl]; rfl) h
    | cons b r => rfl
  · rintro h rfl
    cases h

theorem splitL_len : ∀ (t : List UInt8) w, w ∈ splitL t → w.length ≤ t.length
  | [], w, h => by simp [splitL] at h; subst h; simp
  | b :: r, w, h => by
    simp only [splitL] at h
    split at h
    · rcases List.mem_cons.1 h with rfl | h
      · simp
      · have := splitL_len r w h; simp; omega
    · split at h
      · rename_i w' ws hw
        rcases List.mem_cons.1 h with rfl | h
        · have := splitL_len r w' (by rw [hw]; simp); simp; omega
        · have := splitL_len r w (by rw [hw]; simp [h]); simp; omega
      · simp at h; subst h; simp

/-- All words of a text are words. -/
theorem wordsOk_ok (s : ByteArray) (hs : s.size ≤ 1048576) (a b : Int) : impl_wordsOk (s, (a, b)) =
    some ((splitL (toL s)).all wordL && (decide (a ≤ ((splitL (toL s)).length : Int) ∧ ((splitL (toL s)).length : Int) ≤ b) && decide ((s.size : Int) ≤ 60))) := by
  rw [impl_wordsOk_eq, split_ok s hs, bindO_some']
  have hlen : (splitL (toL s)).length ≤ s.size + 1 := by
    have : ∀ t : List UInt8, (splitL t).length ≤ t.length + 1 := by
      intro t
      induction t with
      | nil => simp [splitL]
      | cons b r ih =>
        simp only [splitL]
        split
        · simp; omega
        · split
          · rename_i hw; rw [hw] at ih; simp at ih ⊢; omega
          · simp
    rw [← toL_len]; exact this _
  have := loop_all (l := fun i => impl_wordsOk.l3 s a b ((splitL (toL s)).map toB) ((splitL (toL s)).map toB) (lenL ((splitL (toL s)).map toB)) i) (n := (splitL (toL s)).length)
    (p := fun i => ((splitL (toL s))[i]?).any wordL) (fin := decide (a ≤ ((splitL (toL s)).length : Int) ∧ ((splitL (toL s)).length : Int) ≤ b) && decide ((s.size : Int) ≤ 60)) (fun i hi => ?_) ?_ (splitL (toL s)).length 0 (by omega)
  · refine this.trans ?_
    congr 2
    rw [Bool.eq_iff_iff, List.all_eq_true, List.all_eq_true]
    constructor
    · intro h w hw
      obtain ⟨i, hi, rfl⟩ := List.getElem_of_mem hw
      have := h i (by simp [List.mem_range']; omega)
      rw [List.getElem?_eq_getElem hi] at this; exact this
    · intro h i hi
      have hi' : i < (splitL (toL s)).length := by simp [List.mem_range'] at hi; omega
      rw [List.getElem?_eq_getElem hi']; exact h _ (List.getElem_mem _)
  · have hi' : i < ((splitL (toL s)).map toB).length := by simpa using hi
    rw [impl_wordsOk.l3_eq, iteB_ltI, lenL_eq, if_pos (by omega), atL_nat, List.getElem?_eq_getElem hi', bindO_some', List.getElem_map]
    have hw := splitL_len (toL s) _ (List.getElem_mem hi)
    rw [isWord_L _ (by rw [← toL_len, toL_toB]; rw [toL_len] at hw; omega), bindO_some', iteB_notB, addI64 (i : Int) 1 (by omega) (by omega), toL_toB, List.getElem?_eq_getElem hi]
    unfold iteB
    rfl
  · rw [impl_wordsOk.l3_eq, iteB_ltI, lenL_eq, if_neg (by simp), impl_wordsOk.j8_eq, within_ok, bindO_some', lenL_eq, lenS_eq]
    simp only [List.length_map]
    unfold iteB leI
    by_cases h : a ≤ ((splitL (toL s)).length : Int) ∧ ((splitL (toL s)).length : Int) ≤ b <;> simp [h]
end Go.E

set_option linter.unusedVariables false
namespace Go.E
open Go

/-! Plain: words of a text, by lists. -/

theorem ne_isEmpty {l : List UInt8} (h : l ≠ []) : (!l.isEmpty) = true := by
  cases l with
  | nil => exact absurd rfl h
  | cons _ _ => rfl

abbrev W3 := List UInt8 × Nat × Nat

/-- A word that ends, ahead of others. -/
def fl (j : Nat) (c : List UInt8) (ws : List W3) : List W3 := if c = [] then ws else (c, j, j + c.length) :: ws

/-- The word that a text begins with, and the words behind it. -/
def wl : Nat → List UInt8 → List UInt8 × List W3
  | _, [] => ([], [])
  | i, b :: r => if alB b = true then (b :: (wl (i + 1) r).1, (wl (i + 1) r).2) else ([], fl (i + 1) (wl (i + 1) r).1 (wl (i + 1) r).2)

def wordsP (i : Nat) (t : List UInt8) : List W3 := fl i (wl i t).1 (wl i t).2

theorem wl_eq : ∀ (t : List UInt8) (i : Nat), wl i t = (t.takeWhile alB, wordsP (i + (t.takeWhile alB).length) (t.drop (t.takeWhile alB).length))
  | [], i => by simp [wl, wordsP, fl]
  | b :: r, i => by
    by_cases hb : alB b = true
    · rw [wl, if_pos hb, wl_eq r (i + 1)]
      simp only [List.takeWhile_cons, hb, if_true, List.length_cons, List.drop_succ_cons]
      rw [show i + ((r.takeWhile alB).length + 1) = i + 1 + (r.takeWhile alB).length by omega]
    · have e : (b :: r).takeWhile alB = [] := by simp [hb]
      rw [e]
      simp only [List.length_nil, Nat.add_zero, List.drop_zero]
      rw [wl, if_neg hb]
      congr 1
      rw [wordsP, wl, if_neg hb]
      simp [fl]

theorem wordsP_skip {b : UInt8} (hb : alB b = false) (r : List UInt8) (i : Nat) : wordsP i (b :: r) = wordsP (i + 1) r := by
  simp [wordsP, wl, hb, fl]

theorem wordsP_take {t : List UInt8} (h : t.takeWhile alB ≠ []) (i : Nat) : wordsP i t = (t.takeWhile alB, i, i + (t.takeWhile alB).length) :: wordsP (i + (t.takeWhile alB).length) (t.drop (t.takeWhile alB).length) := by
  rw [wordsP, wl_eq]
  simp only
  rw [fl, if_neg h]

def joinL : List (List UInt8) → List UInt8
  | [] => []
  | [w] => w
  | w :: v :: r => w ++ 32 :: joinL (v :: r)

theorem join_split : ∀ t : List UInt8, joinL (splitL t) = t
  | [] => rfl
  | b :: r => by
    have ih := join_split r
    simp only [splitL]
    split
    · rename_i h; subst h
      cases hs : splitL r with
      | nil => cases r <;> simp [splitL] at hs <;> (try split at hs) <;> (try split at hs) <;> simp at hs
      | cons w ws => rw [hs] at ih; simp only [joinL, ih, List.nil_append]
    · split
      · rename_i w ws hs
        rw [hs] at ih
        cases ws with
        | nil => simp only [joinL] at ih ⊢; rw [ih]
        | cons v vs => simp only [joinL] at ih ⊢; rw [List.cons_append, ih]
      · rename_i hs
        cases r <;> simp [splitL] at hs <;> (try split at hs) <;> (try split at hs) <;> simp at hs

theorem splitL_ne (t : List UInt8) : splitL t ≠ [] := by
  cases t with
  | nil => simp [splitL]
  | cons b r => simp only [splitL]; split <;> (try split) <;> simp

theorem split_join : ∀ ws : List (List UInt8), ws ≠ [] → (∀ w ∈ ws, (32 : UInt8) ∉ w) → splitL (joinL ws) = ws
  | [], h, _ => absurd rfl h
  | [w], _, h => splitL_none (h w (by simp))
  | w :: v :: r, _, h => by
    rw [joinL, splitL_app (h w (by simp)), split_join (v :: r) (by simp) (fun x hx => h x (by simp [hx]))]

theorem al_ne {b : UInt8} (h : alB b = true) : b ≠ 32 := by rintro rfl; revert h; decide

theorem split_words : ∀ (t : List UInt8) (i : Nat) (w : List UInt8) (ws : List (List UInt8)), splitL t = w :: ws → (∀ b ∈ w, alB b = true) → (∀ v ∈ ws, wordL v = true) → (wl i t).1 = w ∧ (wl i t).2.map (·.1) = ws
  | [], i, w, ws, h, h1, h2 => by
    simp [splitL] at h; obtain ⟨rfl, rfl⟩ := h; simp [wl]
  | b :: r, i, w, ws, h, h1, h2 => by
    simp only [splitL] at h
    split at h
    · rename_i hb; subst hb
      obtain ⟨rfl, rfl⟩ := List.cons.inj h
      cases hs : splitL r with
      | nil => exact absurd hs (splitL_ne r)
      | cons v vs =>
        rw [hs] at h2
        have hv := h2 v (by simp)
        unfold wordL at hv
        rw [Bool.and_eq_true, List.all_eq_true] at hv
        obtain ⟨k1, k2⟩ := split_words r (i + 1) v vs hs hv.1 (fun x hx => h2 x (by simp [hx]))
        have : alB 32 = false := by decide
        rw [wl, if_neg (by rw [this]; simp)]
        refine ⟨rfl, ?_⟩
        have hne : v ≠ [] := by rintro rfl; simp at hv
        simp only [fl, k1, if_neg hne, List.map_cons, k2]
    · split at h
      · rename_i v vs hs
        obtain ⟨rfl, rfl⟩ := List.cons.inj h
        obtain ⟨k1, k2⟩ := split_words r (i + 1) v vs hs (fun x hx => h1 x (by simp [hx])) h2
        rw [wl, if_pos (h1 b (by simp))]
        exact ⟨by simp [k1], k2⟩
      · rename_i hs; exact absurd hs (splitL_ne r)

theorem wl_al : ∀ (t : List UInt8) (i : Nat), (∀ b ∈ (wl i t).1, alB b = true) ∧ ∀ w ∈ (wl i t).2, wordL w.1 = true
  | [], i => by simp [wl]
  | b :: r, i => by
    obtain ⟨h1, h2⟩ := wl_al r (i + 1)
    by_cases hb : alB b = true
    · rw [wl, if_pos hb]
      refine ⟨fun c hc => ?_, h2⟩
      rcases List.mem_cons.1 hc with rfl | hc
      · exact hb
      · exact h1 c hc
    · rw [wl, if_neg hb]
      refine ⟨fun c hc => (List.not_mem_nil hc).elim, fun w hw => ?_⟩
      unfold fl at hw
      split at hw
      · exact h2 w hw
      · rename_i hne
        rcases List.mem_cons.1 hw with rfl | hw
        · unfold wordL; rw [Bool.and_eq_true, List.all_eq_true]
          exact ⟨h1, ne_isEmpty hne⟩
        · exact h2 w hw

theorem wordsP_word (i : Nat) (t : List UInt8) : ∀ w ∈ wordsP i t, wordL w.1 = true := fun w hw => by
  obtain ⟨h1, h2⟩ := wl_al t i
  unfold wordsP fl at hw
  split at hw
  · exact h2 w hw
  · rename_i hne
    rcases List.mem_cons.1 hw with rfl | hw
    · unfold wordL; rw [Bool.and_eq_true, List.all_eq_true]
      exact ⟨h1, ne_isEmpty hne⟩
    · exact h2 w hw

theorem word_no {w : List UInt8} (h : wordL w = true) : (32 : UInt8) ∉ w := fun hm => by
  unfold wordL at h; rw [Bool.and_eq_true, List.all_eq_true] at h
  exact al_ne (h.1 _ hm) rfl

/-- A text of words alone, told in two ways. -/
theorem words_iff (t : List UInt8) : ((splitL t).all wordL = true) ↔ ((wordsP 0 t).map (·.1) ≠ [] ∧ joinL ((wordsP 0 t).map (·.1)) = t) := by
  constructor
  · intro h
    rw [List.all_eq_true] at h
    cases hs : splitL t with
    | nil => exact absurd hs (splitL_ne t)
    | cons w ws =>
      rw [hs] at h
      have hw := h w (by simp)
      have hw' := hw
      unfold wordL at hw; rw [Bool.and_eq_true, List.all_eq_true] at hw
      obtain ⟨k1, k2⟩ := split_words t 0 w ws hs hw.1 (fun v hv => h v (by simp [hv]))
      have hne : w ≠ [] := by rintro rfl; simp at hw
      have e : (wordsP 0 t).map (·.1) = w :: ws := by simp only [wordsP, fl, k1, if_neg hne, List.map_cons, k2]
      rw [e]
      exact ⟨by simp, by rw [← hs, join_split]⟩
  · rintro ⟨h1, h2⟩
    have hw : ∀ w ∈ (wordsP 0 t).map (·.1), wordL w = true := fun w hw => by
      obtain ⟨x, hx, rfl⟩ := List.mem_map.1 hw
      exact wordsP_word 0 t x hx
    have := split_join _ h1 (fun w hm => word_no (hw w hm))
    rw [h2] at this
    rw [this, List.all_eq_true]; exact hw

def seenB (b : UInt8) : Bool := decide (32 ≤ (b.toNat : Int) ∧ (b.toNat : Int) ≤ 126)

theorem al_seen {b : UInt8} (h : alB b = true) : seenB b = true := by
  unfold alB alnumB upperB lowerB digitB at h; unfold seenB
  simp only [Bool.or_eq_true, decide_eq_true_eq] at h ⊢
  omega

theorem join_seen : ∀ ws : List (List UInt8), (∀ w ∈ ws, wordL w = true) → (joinL ws).all seenB = true
  | [], _ => rfl
  | [w], h => by
    have := h w (by simp); unfold wordL at this; rw [Bool.and_eq_true, List.all_eq_true] at this
    rw [joinL, List.all_eq_true]; exact fun b hb => al_seen (this.1 b hb)
  | w :: v :: r, h => by
    have := h w (by simp); unfold wordL at this; rw [Bool.and_eq_true, List.all_eq_true] at this
    rw [joinL, List.all_append, List.all_cons, join_seen (v :: r) (fun x hx => h x (by simp [hx]))]
    have e : w.all seenB = true := by rw [List.all_eq_true]; exact fun b hb => al_seen (this.1 b hb)
    rw [e]; decide

theorem words_seen (t : List UInt8) (h : (splitL t).all wordL = true) : t.all seenB = true := by
  rw [List.all_eq_true] at h
  have := join_seen (splitL t) h
  rwa [join_split] at this

/-- How long the words are, each with a byte behind it. -/
def lenW : List W3 → Nat
  | [] => 0
  | w :: r => w.1.length + 1 + lenW r

theorem wl_len : ∀ (t : List UInt8) (i : Nat), (wl i t).1.length + lenW (wl i t).2 ≤ t.length
  | [], i => by simp [wl, lenW]
  | b :: r, i => by
    have := wl_len r (i + 1)
    rw [wl]
    split
    · simp only [List.length_cons]; omega
    · simp only [List.length_nil, fl, List.length_cons]
      split
      · omega
      · simp only [lenW]; omega

theorem wordsP_len (t : List UInt8) (i : Nat) : lenW (wordsP i t) ≤ t.length + 1 := by
  have := wl_len t i
  unfold wordsP fl
  split
  · omega
  · simp only [lenW]; omega

theorem lenW_ge : ∀ ws : List W3, ws.length ≤ lenW ws
  | [] => Nat.le_refl _
  | w :: r => by have := lenW_ge r; simp only [lenW, List.length_cons]; omega

theorem split_many (t : List UInt8) (h : (splitL t).all wordL = true) : 2 * (splitL t).length ≤ t.length + 1 := by
  have : ∀ ws : List (List UInt8), (∀ w ∈ ws, wordL w = true) → 2 * ws.length ≤ (joinL ws).length + 1 := by
    intro ws
    induction ws with
    | nil => intro _; simp [joinL]
    | cons w r ih =>
      intro h
      have hw := h w (by simp)
      have : 1 ≤ w.length := by
        unfold wordL at hw; rw [Bool.and_eq_true] at hw
        cases w with
        | nil => simp at hw
        | cons _ _ => simp
      cases r with
      | nil => simp [joinL]; omega
      | cons v r =>
        have := ih (fun x hx => h x (by simp [hx]))
        simp only [joinL, List.length_append, List.length_cons] at this ⊢
        omega
  rw [List.all_eq_true] at h
  have h2 := this _ h
  rwa [join_split] at h2
end Go.E

set_option linter.unusedVariables false
namespace Go.E
open Go

/-! Plain: the reference's functions over a text. -/

theorem small_ok (b : Int) (h0 : 0 ≤ b) (h1 : b ≤ 255) : spec_l1Small b = some (smallB b) := by
  rw [spec_l1Small_eq]
  simp only [iteB_leI]
  unfold smallB
  by_cases h : 65 ≤ b ∧ b ≤ 90
  · rw [if_pos h.1, if_pos h.2, if_pos h]
    congr 1
    exact IntWalk.u8_in _ ⟨by omega, by omega⟩
  · rw [if_neg h]
    by_cases h' : 65 ≤ b
    · rw [if_pos h', if_neg (by omega)]
    · rw [if_neg h']

theorem part_ok (b : Int) (h0 : 0 ≤ b) (h1 : b ≤ 255) : spec_l1Part b = some (alnumB b) := by
  rw [spec_l1Part_eq, small_ok b h0 h1, bindO_some']
  simp only [iteB_leI]
  have : alnumB b = decide ((97 ≤ smallB b ∧ smallB b ≤ 122) ∨ (48 ≤ smallB b ∧ smallB b ≤ 57)) := by
    unfold alnumB upperB lowerB digitB smallB
    rw [← Bool.decide_or, ← Bool.decide_or]
    apply decide_eq_decide.2
    split <;> omega
  rw [this]
  unfold leI
  by_cases a1 : 97 ≤ smallB b <;> by_cases a2 : smallB b ≤ 122 <;> by_cases a3 : 48 ≤ smallB b <;> by_cases a4 : smallB b ≤ 57 <;> simp [a1, a2, a3, a4] <;> omega

theorem atS_toL {s : ByteArray} {i : Nat} {b : UInt8} (h : (toL s)[i]? = some b) : atS s i = some ((b.toNat : Int)) := by
  have hi : i < s.size := (List.getElem?_eq_some_iff.1 h).1
  rw [atS_nat s i hi]
  unfold byteAt
  unfold toL at h
  rw [Array.getElem?_toList] at h
  rw [h]; rfl

theorem byte_le (b : UInt8) : (0 : Int) ≤ (b.toNat : Int) ∧ (b.toNat : Int) ≤ 255 := ⟨by omega, by have := b.toNat_lt; omega⟩

theorem drop_at {α : Type} {l : List α} {i : Nat} (h : i < l.length) : ∃ b, l[i]? = some b ∧ l.drop i = b :: l.drop (i + 1) :=
  ⟨l[i], List.getElem?_eq_getElem h, List.drop_eq_getElem_cons h⟩

/-- The inner loop of Words. -/
theorem words_l5 (s : ByteArray) (hs : s.size ≤ 1048576) (i : Nat) (out : List (ByteArray × (Int × Int))) : ∀ (n k : Nat), k + n = s.size → spec_Words.l5 s i k out = spec_Words.j7 s i ((k + (((toL s).drop k).takeWhile alB).length : Nat) : Int) out
  | 0, k, e => by
    rw [spec_Words.l5_eq, iteB_ltI, lenS_eq, if_neg (by omega)]
    rw [List.drop_eq_nil_of_le (by rw [toL_len]; omega)]; simp
  | n + 1, k, e => by
    obtain ⟨b, hb, hd⟩ := drop_at (l := toL s) (i := k) (by rw [toL_len]; omega)
    rw [spec_Words.l5_eq, iteB_ltI, lenS_eq, if_pos (by omega), atS_toL hb, bindO_some', part_ok _ (byte_le b).1 (byte_le b).2, bindO_some']
    have e1 : alnumB (b.toNat : Int) = alB b := rfl
    rw [e1, hd]
    cases ha : alB b with
    | true =>
      rw [iteB_t, addI64 (k : Int) 1 (by omega) (by omega)]
      have := words_l5 s hs i out n (k + 1) (by omega)
      rw [show (k : Int) + 1 = ((k + 1 : Nat) : Int) by omega, this]
      simp only [List.takeWhile_cons, ha, if_true, List.length_cons]
      congr 2; omega
    | false =>
      rw [iteB_f]
      simp [ha]

def wOf (w : W3) : ByteArray × (Int × Int) := (toB w.1, ((w.2.1 : Int), (w.2.2 : Int)))

theorem roomMax_eq : roomMax = 274877906944 := rfl

theorem words_l3 (s : ByteArray) (hs : s.size ≤ 1048576) : ∀ (n i : Nat) (out : List (ByteArray × (Int × Int))), s.size - i ≤ n → i ≤ s.size → out.length ≤ i → spec_Words.l3 s i out = some (out ++ (wordsP i ((toL s).drop i)).map wOf)
  | n, i, out, hn, hi, ho => by
    by_cases hlt : i < s.size
    · obtain ⟨b, hb, hd⟩ := drop_at (l := toL s) (i := i) (by rw [toL_len]; omega)
      rw [spec_Words.l3_eq, iteB_ltI, lenS_eq, if_pos (by omega), words_l5 s hs i out (s.size - i) i (by omega), spec_Words.j7_eq, iteB_eqI]
      have htl : (((toL s).drop i).takeWhile alB).length ≤ s.size - i := by
        have := (List.takeWhile_prefix alB (l := (toL s).drop i)).length_le
        rw [List.length_drop, toL_len] at this; exact this
      cases n with
      | zero => omega
      | succ n =>
      by_cases h0 : ((toL s).drop i).takeWhile alB = []
      · rw [h0, if_pos (by simp), addI64 (i : Int) 1 (by omega) (by omega), show (i : Int) + 1 = ((i + 1 : Nat) : Int) by omega, words_l3 s hs n (i + 1) out (by omega) (by omega) (by omega)]
        have : alB b = false := by
          rw [hd] at h0
          cases ha : alB b with
          | false => rfl
          | true => simp [ha] at h0
        rw [hd, wordsP_skip this]
      · have hpos : 0 < (((toL s).drop i).takeWhile alB).length := List.length_pos_iff.2 h0
        rw [if_neg (by omega), lenS_eq, iteB_okCut, if_pos (by omega), iteB_room, if_pos (by simp; rw [roomMax_eq]; omega)]
        unfold appL
        rw [words_l3 s hs n (i + (((toL s).drop i).takeWhile alB).length) _ (by omega) (by omega) (by simp <;> omega)]
        rw [wordsP_take h0 i, List.map_cons, List.append_assoc, List.drop_drop]
        congr 2
        simp only [List.singleton_append, List.cons.injEq, and_true]
        unfold wOf
        congr 1
        rw [← toB_toL (cutS s _ _), cutS_toL]
        congr 1
        rw [Nat.add_sub_cancel_left]
        exact (List.prefix_iff_eq_take.1 (List.takeWhile_prefix alB)).symm
    · have : i = s.size := by omega
      rw [spec_Words.l3_eq, iteB_ltI, lenS_eq, if_neg (by omega), spec_Words.j11_eq, List.drop_eq_nil_of_le (by rw [toL_len]; omega)]
      simp [wordsP, wl, fl]

theorem sWords_ok (s : ByteArray) (hs : s.size ≤ 1048576) : spec_Words s = some ((wordsP 0 (toL s)).map wOf) := by
  rw [spec_Words_eq]
  have := words_l3 s hs s.size 0 [] (by omega) (by omega) (Nat.zero_le _)
  simpa using this

theorem toL_cat (a b : ByteArray) : toL (catS a b) = toL a ++ toL b := by
  unfold toL catS; simp

theorem toL_inj {a b : ByteArray} (h : toL a = toL b) : a = b := by rw [← toB_toL a, h, toB_toL]

def tailW : List W3 → List UInt8
  | [] => []
  | w :: r => 32 :: (w.1 ++ tailW r)

theorem join_tail : ∀ (w : W3) (r : List W3), joinL ((w :: r).map (·.1)) = w.1 ++ tailW r
  | w, [] => by simp [joinL, tailW]
  | w, v :: r => by
    have := join_tail v r
    simp only [List.map_cons] at this ⊢
    rw [joinL, this]; rfl

theorem tailW_len : ∀ r : List W3, (tailW r).length = lenW r
  | [] => rfl
  | w :: r => by simp only [tailW, lenW, List.length_cons, List.length_append, tailW_len r]; omega

theorem l5_step (s a : ByteArray) (ws : List W3) (hl : lenW ws ≤ 1048577) : ∀ (n i : Nat), i + n = ws.length → 0 < i → a.size + lenW (ws.drop i) ≤ 1048577 →
    spec_l5Words.l4 s a i (ws.map wOf) = some (if toL a ++ tailW (ws.drop i) = toL s then (ws.length : Int) else 0)
  | 0, i, e, h0, ha => by
    rw [spec_l5Words.l4_eq, iteB_ltI, lenL_eq, if_neg (by simp <;> omega), spec_l5Words.j9_eq, iteB_notB, iteB_eqS, List.drop_eq_nil_of_le (by omega)]
    simp only [tailW, List.append_nil, lenL_eq, List.length_map]
    by_cases h : a = s
    · subst h; simp
    · rw [if_neg h, if_neg (fun e => h (toL_inj e))]
  | n + 1, i, e, h0, ha => by
    obtain ⟨w, hw, hd⟩ := drop_at (l := ws) (i := i) (by omega)
    rw [hd] at ha ⊢
    simp only [lenW] at ha
    have hlw := lenW_ge ws
    rw [spec_l5Words.l4_eq, iteB_ltI, lenL_eq, if_pos (by simp <;> omega), iteB_ltI, if_pos (by omega), iteB_roomS]
    have e1 : (bs [32] : ByteArray).size = 1 := rfl
    rw [if_pos (by rw [e1, roomMax_eq]; omega), spec_l5Words.j8_eq, iteB_leI, if_pos (by omega), iteB_ltI, lenL_eq, if_pos (by simp <;> omega), atL_nat, List.getElem?_map, hw]
    simp only [Option.map_some, bindO_some']
    have e2 : (wOf w).1.size = w.1.length := by unfold wOf toB; simp [ByteArray.size]
    have e3 : (catS a (bs [32])).size = a.size + 1 := by
      rw [← toL_len, toL_cat, List.length_append, toL_len, toL_len, e1]
    rw [iteB_roomS, if_pos (by rw [e2, e3, roomMax_eq]; omega), addI64 (i : Int) 1 (by omega) (by omega), show (i : Int) + 1 = ((i + 1 : Nat) : Int) by omega]
    have e4 : (catS (catS a (bs [32])) (wOf w).1).size = a.size + 1 + w.1.length := by
      rw [← toL_len, toL_cat, List.length_append, toL_len, toL_len, e2, e3]
    rw [l5_step s _ ws hl n (i + 1) (by omega) (by omega) (by rw [e4]; omega)]
    have e5 : toL (catS (catS a (bs [32])) (wOf w).1) ++ tailW (ws.drop (i + 1)) = toL a ++ tailW (w :: ws.drop (i + 1)) := by
      rw [toL_cat, toL_cat]
      simp only [tailW, wOf, toL_toB, List.append_assoc]
      rfl
    rw [e5]

theorem l5_first (s : ByteArray) (ws : List W3) (hl : lenW ws ≤ 1048577) : spec_l5Words.l4 s (bs []) 0 (ws.map wOf) = some (if joinL (ws.map (·.1)) = toL s then (ws.length : Int) else 0) := by
  cases ws with
  | nil =>
    rw [spec_l5Words.l4_eq, iteB_ltI, lenL_eq, if_neg (by simp), spec_l5Words.j9_eq, iteB_notB, iteB_eqS]
    simp only [List.map_nil, lenL_eq, List.length_nil, joinL]
    split <;> split <;> rfl
  | cons w r =>
    have hl' := hl
    simp only [lenW] at hl
    have hlw := lenW_ge r
    rw [spec_l5Words.l4_eq, iteB_ltI, lenL_eq, if_pos (by simp <;> omega), iteB_ltI, if_neg (by omega), spec_l5Words.j8_eq, iteB_leI, if_pos (by omega), iteB_ltI, lenL_eq, if_pos (by simp <;> omega)]
    have : atL ((w :: r).map wOf) 0 = some (wOf w) := rfl
    rw [this, bindO_some', iteB_roomS]
    have e2 : (wOf w).1.size = w.1.length := by unfold wOf toB; simp [ByteArray.size]
    have e1 : (bs [] : ByteArray).size = 0 := rfl
    rw [if_pos (by rw [e2, e1, roomMax_eq]; omega), addI64 0 1 (by omega) (by omega)]
    have e4 : (catS (bs []) (wOf w).1).size = w.1.length := by
      rw [← toL_len, toL_cat, List.length_append, toL_len, toL_len, e2, e1]; omega
    have := l5_step s (catS (bs []) (wOf w).1) (w :: r) hl' r.length 1 (by simp <;> omega) (by omega) (by rw [e4]; simp; omega)
    rw [show (0 : Int) + 1 = ((1 : Nat) : Int) from rfl, this, toL_cat, join_tail]
    simp only [List.drop_succ_cons, List.drop_zero]
    rfl

theorem l5Words_ok (s : ByteArray) (hs : s.size ≤ 1048576) : spec_l5Words s = some (if joinL ((wordsP 0 (toL s)).map (·.1)) = toL s then ((wordsP 0 (toL s)).length : Int) else 0) := by
  rw [spec_l5Words_eq, sWords_ok s hs, bindO_some', l5_first]
  have := wordsP_len (toL s) 0
  rw [toL_len] at this; omega

theorem l2Text_ok (s : ByteArray) (hs : s.size ≤ 1048576) : spec_l2Text s = some ((toL s).all seenB && decide ((s.size : Int) ≤ 60)) := by
  rw [spec_l2Text_eq]
  have := loop_all (l := fun i => spec_l2Text.l2 s i) (n := s.size) (p := fun i => decide (32 ≤ byteAt s i ∧ byteAt s i ≤ 126)) (fin := decide ((s.size : Int) ≤ 60)) (fun i hi => ?_) ?_ s.size 0 (by omega)
  · refine this.trans ?_
    have e := range_all s (fun b => decide (32 ≤ b ∧ b ≤ 126))
    rw [e]; rfl
  · rw [spec_l2Text.l2_eq, iteB_ltI, lenS_eq, if_pos (by omega), atS_nat s i hi, bindO_some']
    have hb : 0 ≤ byteAt s i ∧ byteAt s i ≤ 255 := by
      have hi' : i < (toL s).length := hi
      have := atS_toL (List.getElem?_eq_getElem hi')
      rw [atS_nat s i hi] at this
      rw [Option.some.inj this]; exact byte_le _
    have hc : convI Go.IntKind.i64 (byteAt s i) = byteAt s i := IntWalk.i64_in _ ⟨by omega, by omega⟩
    rw [hc, l1In_ok, bindO_some', iteB_notB, addI64 (i : Int) 1 (by omega) (by omega)]
    unfold iteB
    rfl
  · rw [spec_l2Text.l2_eq, iteB_ltI, lenS_eq, if_neg (by omega), spec_l2Text.j6_eq]; rfl
end Go.E

set_option linter.unusedVariables false
namespace Go.E
open Go

/-! Plain: Fold, and hints. -/

theorem rowOfS_eq (s : ByteArray) : rowOfS s = (toL s).map fun b => (b.toNat : Int) := rfl
theorem rowOfS_len (s : ByteArray) : (rowOfS s).length = s.size := by rw [rowOfS_eq, List.length_map, toL_len]
theorem atS_row (s : ByteArray) (i : Nat) : atS s i = (rowOfS s)[i]? := by
  unfold atS rowOfS
  rw [if_pos (by omega)]
  simp
theorem row_byte {s : ByteArray} {i : Nat} {b : Int} (h : (rowOfS s)[i]? = some b) : 0 ≤ b ∧ b ≤ 255 := by
  rw [rowOfS_eq, List.getElem?_map, Option.map_eq_some_iff] at h
  obtain ⟨c, _, rfl⟩ := h
  exact byte_le c

def foldI (s : ByteArray) : ByteArray := strOf ((rowOfS s).map smallB)

theorem sFold_l3 (s : ByteArray) (hs : s.size ≤ 1048576) : ∀ (n i : Nat) (acc : List Int), i + n = s.size → acc.length = i → spec_Fold.l3 s i acc = some (strOf (acc ++ ((rowOfS s).drop i).map smallB))
  | 0, i, acc, e, ha => by
    rw [spec_Fold.l3_eq, iteB_ltI, lenS_eq, if_neg (by omega), spec_Fold.j6_eq, List.drop_eq_nil_of_le (by rw [rowOfS_len]; omega)]; simp
  | n + 1, i, acc, e, ha => by
    obtain ⟨b, hb, hd⟩ := drop_at (l := rowOfS s) (i := i) (by rw [rowOfS_len]; omega)
    have hbb := row_byte hb
    rw [spec_Fold.l3_eq, iteB_ltI, lenS_eq, if_pos (by omega), atS_row, hb, bindO_some', small_ok b hbb.1 hbb.2, bindO_some', iteB_room, if_pos (by simp; rw [roomMax_eq]; omega), addI64 (i : Int) 1 (by omega) (by omega),
      show (i : Int) + 1 = ((i + 1 : Nat) : Int) by omega]
    unfold appL
    rw [sFold_l3 s hs n (i + 1) _ (by omega) (by simp; omega), hd]
    simp

theorem sFold_ok (s : ByteArray) (hs : s.size ≤ 1048576) : spec_Fold s = some (foldI s) := by
  rw [spec_Fold_eq]
  have := sFold_l3 s hs s.size 0 [] (by omega) rfl
  unfold foldI
  simpa using this

theorem iFold_l3 (r : List Int) (hr : r.length ≤ 1048576) (hb : ∀ (i : Nat) (b : Int), r[i]? = some b → 0 ≤ b ∧ b ≤ 255) : ∀ (n i : Nat), i + n = r.length → impl_Fold.l3 (r.length : Int) i ((r.take i).map smallB ++ r.drop i) = some (strOf (r.map smallB))
  | 0, i, e => by
    rw [impl_Fold.l3_eq, iteB_ltI, if_neg (by omega), impl_Fold.j8_eq, List.drop_eq_nil_of_le (by omega), List.take_of_length_le (by omega)]; simp
  | n + 1, i, e => by
    obtain ⟨b, hbi, hd⟩ := drop_at (l := r) (i := i) (by omega)
    have hbb := hb i b hbi
    have hl : ((r.take i).map smallB ++ r.drop i).length = r.length := by simp; omega
    have hat : ((r.take i).map smallB ++ r.drop i)[i]? = some b := by
      rw [List.getElem?_append_right (by simp; omega)]
      simp only [List.length_map, List.length_take]
      rw [Nat.min_eq_left (by omega), Nat.sub_self, hd]; rfl
    have ht : r.take (i + 1) = r.take i ++ [b] := by rw [List.take_add_one, hbi]; rfl
    have hset : setL ((r.take i).map smallB ++ r.drop i) i (smallB b) = (r.take (i + 1)).map smallB ++ r.drop (i + 1) := by
      unfold setL
      rw [Int.toNat_natCast, List.set_append_right _ _ (by simp; omega), ht, hd]
      simp only [List.length_map, List.length_take]
      rw [Nat.min_eq_left (by omega), Nat.sub_self]; simp
    rw [impl_Fold.l3_eq, iteB_ltI, if_pos (by omega), iteB_leI, if_pos (by omega), iteB_ltI, lenL_eq, if_pos (by omega), atL_nat, hat, bindO_some', upper_ok, bindO_some']
    cases hu : upperB b with
    | true =>
      have hu' : 65 ≤ b ∧ b ≤ 90 := by unfold upperB at hu; simpa using hu
      have hsm : subI Go.IntKind.u8 (addI Go.IntKind.u8 b (97 : Int)) (65 : Int) = smallB b := by
        unfold smallB; rw [if_pos hu']
        have h1 : addI Go.IntKind.u8 b 97 = b + 97 := IntWalk.u8_in _ ⟨by omega, by omega⟩
        rw [h1]
        have h2 : subI Go.IntKind.u8 (b + 97) 65 = b + 97 - 65 := IntWalk.u8_in _ ⟨by omega, by omega⟩
        rw [h2]; omega
      rw [iteB_t, iteB_leI, if_pos (by omega), iteB_ltI, if_pos (by omega), bindO_some', impl_Fold.j7_eq, hsm, hset, addI64 (i : Int) 1 (by omega) (by omega), show (i : Int) + 1 = ((i + 1 : Nat) : Int) by omega]
      exact iFold_l3 r hr hb n (i + 1) (by omega)
    | false =>
      have hu' : ¬ (65 ≤ b ∧ b ≤ 90) := by unfold upperB at hu; simpa using hu
      have hsm : smallB b = b := by unfold smallB; rw [if_neg hu']
      rw [iteB_f, impl_Fold.j7_eq, addI64 (i : Int) 1 (by omega) (by omega), show (i : Int) + 1 = ((i + 1 : Nat) : Int) by omega]
      have hset2 : (r.take i).map smallB ++ r.drop i = (r.take (i + 1)).map smallB ++ r.drop (i + 1) := by
        rw [ht, hd]; simp [hsm]
      rw [hset2]
      exact iFold_l3 r hr hb n (i + 1) (by omega)

theorem iFold_ok (s : ByteArray) (hs : s.size ≤ 1048576) : impl_Fold s = some (foldI s) := by
  rw [impl_Fold_eq]
  have := iFold_l3 (rowOfS s) (by rw [rowOfS_len]; exact hs) (fun i b h => row_byte h) (rowOfS s).length 0 (by omega)
  exact this

/-- Whether a text may be a hint. -/
def hintT (s : ByteArray) : Bool := (splitL (toL s)).all wordL && (decide ((s.size : Int) ≤ 60) && decide (foldI s = s))
def hintB (x : ByteArray × Int) : Bool := hintT x.1 && decide (1 ≤ x.2 ∧ x.2 ≤ 999999999)

theorem iHint_ok (x : ByteArray × Int) (hs : x.1.size ≤ 1048576) : impl_hintOk x = some (hintB x) := by
  rw [impl_hintOk_eq, wordsOk_ok x.1 hs, bindO_some', iFold_ok x.1 hs, bindO_some', within_ok, bindO_some']
  unfold hintB hintT eqS
  by_cases h1 : (splitL (toL x.1)).all wordL = true
  · have h2 := split_many _ h1
    have h3 := List.length_pos_iff.2 (splitL_ne (toL x.1))
    rw [toL_len] at h2
    rw [h1]
    by_cases h4 : (x.1.size : Int) ≤ 60
    · have : decide ((1 : Int) ≤ ((splitL (toL x.1)).length : Int) ∧ ((splitL (toL x.1)).length : Int) ≤ 60) = true := decide_eq_true ⟨by omega, by omega⟩
      rw [this]
      by_cases h5 : foldI x.1 = x.1
      · simp [h4, h5, iteB]
      · simp [h4, h5, iteB]
    · simp [h4, iteB]
  · have h1' : (splitL (toL x.1)).all wordL = false := by simpa using h1
    rw [h1']; simp [iteB]

theorem sHintT_ok (s : ByteArray) (hs : s.size ≤ 1048576) : spec_l9Ok s = some (hintT s) := by
  rw [spec_l9Ok_eq, l2Text_ok s hs, bindO_some', l5Words_ok s hs, bindO_some', sFold_ok s hs, bindO_some', iteB_ltI]
  unfold hintT eqS
  have hlen : ((wordsP 0 (toL s)).map (·.1) ≠ []) ↔ 0 < ((wordsP 0 (toL s)).length : Int) := by
    cases wordsP 0 (toL s) <;> simp <;> omega
  by_cases h1 : (splitL (toL s)).all wordL = true
  · have h2 := words_seen _ h1
    obtain ⟨h3, h4⟩ := (words_iff (toL s)).1 h1
    rw [h1, h2, if_pos h4, if_pos (hlen.1 h3)]
    by_cases h5 : (s.size : Int) ≤ 60 <;> simp [h5, iteB]
  · have h1' : (splitL (toL s)).all wordL = false := by simpa using h1
    rw [h1']
    have : ¬ (0 < if joinL ((wordsP 0 (toL s)).map (·.1)) = toL s then ((wordsP 0 (toL s)).length : Int) else 0) := by
      split
      · rename_i hj
        intro hp
        exact h1 ((words_iff (toL s)).2 ⟨hlen.2 hp, hj⟩)
      · omega
    rw [if_neg this]
    simp [iteB]

/-- What both look at, hint by hint. -/
def hintAt (l : List (ByteArray × Int)) (i : Nat) : Bool := match l[i]? with
  | none => false
  | some x => hintB x && (decide (i = 0) || match l[i - 1]? with
    | none => false
    | some y => ltS y.1 x.1)

def hintsB (l : List (ByteArray × Int)) : Bool := (List.range' 0 l.length).all (hintAt l) && decide ((l.length : Int) ≤ 10)

theorem hintAt_eq (l : List (ByteArray × Int)) (i : Nat) (h : i < l.length) : hintAt l i = (hintB l[i] && (decide (i = 0) || match l[i - 1]? with
    | none => false
    | some y => ltS y.1 l[i].1)) := by
  unfold hintAt; rw [List.getElem?_eq_getElem h]

abbrev HL := List (ByteArray × Int)
def Small (l : HL) : Prop := l.length ≤ 1048576 ∧ ∀ x ∈ l, x.1.size ≤ 1048576

theorem iHints_ok (l : HL) (hl : Small l) : impl_HintsOk l = some (hintsB l) := by
  obtain ⟨hn, hx⟩ := hl
  rw [impl_HintsOk_eq]
  have := loop_all (l := fun i => impl_HintsOk.l2 l l (lenL l) i) (n := l.length) (p := hintAt l) (fin := decide ((l.length : Int) ≤ 10)) (fun i hi => ?_) ?_ l.length 0 (by omega)
  · exact this
  · have hg := List.getElem?_eq_getElem hi
    have hsz := hx _ (List.getElem_mem hi)
    rw [impl_HintsOk.l2_eq, iteB_ltI, lenL_eq, if_pos (by omega), atL_nat, hg, bindO_some', iHint_ok _ hsz, bindO_some', iteB_notB, iteB_ltI, addI64 (i : Int) 1 (by omega) (by omega)]
    rw [hintAt_eq l i hi]
    by_cases hB : hintB l[i] = true
    rotate_left
    · have hB' : hintB l[i] = false := by simpa using hB
      rw [hB']; simp [iteB]
    · rw [hB, iteB_t]
      by_cases h0 : i = 0
      · subst h0; simp
      · have hg1 := List.getElem?_eq_getElem (l := l) (i := i - 1) (by omega)
        rw [if_pos (by omega), subI64 (i : Int) 1 (by omega) (by omega), show (i : Int) - 1 = ((i - 1 : Nat) : Int) by omega, atL_nat, hg1, bindO_some', iteB_notB]
        simp only [h0, decide_false, Bool.false_or, Bool.true_and]
        unfold iteB
        rfl
  · rw [impl_HintsOk.l2_eq, iteB_ltI, lenL_eq, if_neg (by omega), impl_HintsOk.j7_eq]; rfl

theorem sHints_ok (l : HL) (hl : Small l) : spec_HintsOk l = some (hintsB l) := by
  obtain ⟨hn, hx⟩ := hl
  rw [spec_HintsOk_eq]
  have := loop_all (l := fun i => spec_HintsOk.l2 l i) (n := l.length) (p := hintAt l) (fin := decide ((l.length : Int) ≤ 10)) (fun i hi => ?_) ?_ l.length 0 (by omega)
  · exact this
  · have hg := List.getElem?_eq_getElem hi
    have hsz := hx _ (List.getElem_mem hi)
    rw [spec_HintsOk.l2_eq, iteB_ltI, lenL_eq, if_pos (by omega)]
    simp only [atL_nat, hg, bindO_some', sHintT_ok _ hsz, l1In_ok, iteB_notB]
    rw [iteB_ltI, addI64 (i : Int) 1 (by omega) (by omega)]
    rw [hintAt_eq l i hi]
    unfold hintB
    by_cases hB : hintT l[i].1 = true
    rotate_left
    · have hB' : hintT l[i].1 = false := by simpa using hB
      rw [hB']; simp [iteB]
    · rw [hB, iteB_t]
      by_cases hW : 1 ≤ l[i].2 ∧ l[i].2 ≤ 999999999
      rotate_left
      · rw [decide_eq_false hW]; simp [iteB]
      · rw [decide_eq_true hW, iteB_t]
        by_cases h0 : i = 0
        · subst h0; simp
        · have hg1 := List.getElem?_eq_getElem (l := l) (i := i - 1) (by omega)
          rw [if_pos (by omega), subI64 (i : Int) 1 (by omega) (by omega), show (i : Int) - 1 = ((i - 1 : Nat) : Int) by omega, atL_nat, hg1, bindO_some']
          simp only [h0, decide_false, Bool.false_or, Bool.true_and]
          unfold iteB
          rfl
  · rw [spec_HintsOk.l2_eq, iteB_ltI, lenL_eq, if_neg (by omega), spec_HintsOk.j6_eq]; rfl
end Go.E

set_option linter.unusedVariables false
namespace Go.E
open Go

/-! Plain: the law 'FnExactHintsOk' holds of every list. -/

theorem szHint_ok (x : ByteArray × Int) (h : x.1.size ≤ 9223372036854775807) (left : Int) (h0 : 0 ≤ left) (h1 : left ≤ 1048576) :
    laws_szHint (x, left) = some (if left - (x.1.size : Int) < 0 then -1 else left - (x.1.size : Int)) := by
  rw [laws_szHint_eq, lenS_eq, subI64 left _ (by omega) (by omega), iteB_ltI]
  split <;> rfl

theorem szHintS_l5 (l : HL) (hg : ∀ x ∈ l, x.1.size ≤ 9223372036854775807) (hn : l.length ≤ 1048576) : ∀ (n i : Nat) (left : Int), i + n = l.length → 0 ≤ left → left ≤ 1048576 →
    ∃ v, laws_szHintS.l5 l left i = some v ∧ (0 ≤ v → ∀ x ∈ l.drop i, x.1.size ≤ 1048576)
  | 0, i, left, e, h0, h1 => by
    refine ⟨left, ?_, fun _ x hx => ?_⟩
    · rw [laws_szHintS.l5_eq, iteB_ltI, lenL_eq, if_neg (by omega), laws_szHintS.j10_eq]
    · rw [List.drop_eq_nil_of_le (by omega)] at hx; cases hx
  | n + 1, i, left, e, h0, h1 => by
    obtain ⟨x, hx, hd⟩ := drop_at (l := l) (i := i) (by omega)
    have hxs := hg x (List.mem_of_getElem? hx)
    rw [laws_szHintS.l5_eq, iteB_ltI, lenL_eq, if_pos (by omega), atL_nat, hx, bindO_some', szHint_ok x hxs left h0 h1, bindO_some', iteB_ltI]
    by_cases hc : left - (x.1.size : Int) < 0
    · rw [if_pos hc, if_pos (by omega)]
      exact ⟨-1, rfl, fun h => by omega⟩
    · rw [if_neg hc, if_neg hc, addI64 (i : Int) 1 (by omega) (by omega), show (i : Int) + 1 = ((i + 1 : Nat) : Int) by omega]
      obtain ⟨v, k1, k2⟩ := szHintS_l5 l hg hn n (i + 1) (left - (x.1.size : Int)) (by omega) (by omega) (by omega)
      refine ⟨v, k1, fun hv y hy => ?_⟩
      rw [hd] at hy
      rcases List.mem_cons.1 hy with rfl | hy
      · omega
      · exact k2 hv y hy

theorem szHintS_ok (l : HL) (hg : ∀ x ∈ l, x.1.size ≤ 9223372036854775807) (hn : l.length ≤ 9223372036854775807) : ∃ v, laws_szHintS (l, 1048576) = some v ∧ (0 ≤ v → Small l) := by
  rw [laws_szHintS_eq, lenL_eq, subI64 1048576 _ (by omega) (by omega), iteB_ltI]
  by_cases hc : (1048576 : Int) - (l.length : Int) < 0
  · rw [if_pos hc]; exact ⟨-1, rfl, fun h => by omega⟩
  · rw [if_neg hc]
    obtain ⟨v, k1, k2⟩ := szHintS_l5 l hg (by omega) l.length 0 (1048576 - (l.length : Int)) (by omega) (by omega) (by omega)
    exact ⟨v, k1, fun hv => ⟨by omega, fun x hx => k2 hv x (by simpa using hx)⟩⟩

theorem toHintS_l3 (l : HL) (hn : l.length ≤ 1048576) (z : ByteArray × Int) : ∀ (n i : Nat), i + n = l.length → laws_toHintS.l3 l i (l.take i ++ List.replicate n z) = some l
  | 0, i, e => by
    rw [laws_toHintS.l3_eq, iteB_ltI, lenL_eq, if_neg (by omega), laws_toHintS.j6_eq, List.take_of_length_le (by omega)]; simp
  | n + 1, i, e => by
    obtain ⟨x, hx, hd⟩ := drop_at (l := l) (i := i) (by omega)
    have hl : (l.take i ++ List.replicate (n + 1) z).length = l.length := by simp; omega
    have hat : (l.take i ++ List.replicate (n + 1) z)[i]? = some z := by
      rw [List.getElem?_append_right (by simp; omega)]
      simp only [List.length_take]
      rw [Nat.min_eq_left (by omega), Nat.sub_self]; rfl
    have ht : l.take (i + 1) = l.take i ++ [x] := by rw [List.take_add_one, hx]; rfl
    have hset : setL (l.take i ++ List.replicate (n + 1) z) i x = l.take (i + 1) ++ List.replicate n z := by
      unfold setL
      rw [Int.toNat_natCast, List.set_append_right _ _ (by simp; omega), ht]
      simp only [List.length_take]
      rw [Nat.min_eq_left (by omega), Nat.sub_self, List.replicate_succ]; simp
    rw [laws_toHintS.l3_eq, iteB_ltI, lenL_eq, if_pos (by omega), atL_nat, hx, bindO_some', laws_toHint_eq, bindO_some', iteB_leI, if_pos (by omega), iteB_ltI, lenL_eq, hl, if_pos (by omega), atL_nat, hat, bindO_some', hset,
      addI64 (i : Int) 1 (by omega) (by omega), show (i : Int) + 1 = ((i + 1 : Nat) : Int) by omega]
    exact toHintS_l3 l hn z n (i + 1) (by omega)

theorem toHintS_ok (l : HL) (hn : l.length ≤ 1048576) : laws_toHintS l = some l := by
  rw [laws_toHintS_eq, lenL_eq, iteB_eqI, if_pos rfl, iteB_roomN, if_pos (by rw [roomMax_eq]; omega)]
  exact toHintS_l3 l hn _ l.length 0 (by omega)

theorem eqHint_ok (x : ByteArray × Int) : laws_eqHint (x, x) = some true := by
  rw [laws_eqHint_eq, iteB_notB, iteB_notB, iteB_eqS, iteB_eqI, if_pos rfl, if_pos rfl]

theorem eqHintS_ok (l : HL) (hn : l.length ≤ 1048576) : laws_eqHintS (l, l) = some true := by
  rw [laws_eqHintS_eq, iteB_notB, iteB_eqI, if_pos rfl]
  have := loop_all (l := fun i => laws_eqHintS.l4 l l i) (n := l.length) (p := fun _ => true) (fin := true) (fun i hi => ?_) ?_ l.length 0 (by omega)
  · exact this.trans (by simp)
  · rw [laws_eqHintS.l4_eq, iteB_ltI, lenL_eq, if_pos (by omega)]
    simp only [atL_nat, List.getElem?_eq_getElem hi, bindO_some', eqHint_ok, iteB_notB]
    rw [iteB_t, addI64 (i : Int) 1 (by omega) (by omega)]; rfl
  · rw [laws_eqHintS.l4_eq, iteB_ltI, lenL_eq, if_neg (by omega), laws_eqHintS.j8_eq]

/-- The law, of every list. -/
theorem exactHintsOk (l : HL) (hg : ∀ x ∈ l, x.1.size ≤ 9223372036854775807) (hn : l.length ≤ 9223372036854775807) : laws_FnExactHintsOk l = some true := by
  obtain ⟨v, h1, h2⟩ := szHintS_ok l hg hn
  rw [laws_FnExactHintsOk_eq, h1, bindO_some', iteB_ltI]
  by_cases hv : v < 0
  · rw [if_pos hv]
  · have hs := h2 (by omega)
    rw [if_neg hv]
    simp only [toHintS_ok l hs.1, sHints_ok l hs, iHints_ok l hs, eqHintS_ok l hs.1, bindO_some']
    unfold eqBo
    simp [iteB, notB]
/-- The law, as its row asks. -/
theorem exactHintsOk' (l : HL) (hg : Good' (.sl (.pr .str (.int .i64))) l) : laws_FnExactHintsOk l = some true := by
  obtain ⟨h1, h2⟩ := hg
  have hm : maxLen = 9223372036854775807 := by decide
  rw [hm] at h1
  refine exactHintsOk l (fun x hx => ?_) h1
  have := (h2 x hx).1
  have h3 : x.1.size ≤ maxLen := this
  rw [hm] at h3; exact h3
end Go.E

set_option linter.unusedVariables false
namespace Go.E
open Go

/-! Plain: words and stems, in both. -/

theorem index_l2 (l : List ByteArray) (v : ByteArray) (hl : l.length ≤ 1048576) : ∀ (n i : Nat), i + n = l.length → ∃ r, slices_Index_string_string.l2 l v (l.length : Int) i = some r ∧ leI 0 r = (l.drop i).any (fun y => decide (y = v))
  | 0, i, e => by
    have hd : l.drop i = [] := List.drop_eq_nil_of_le (by omega)
    rw [slices_Index_string_string.l2_eq, iteB_ltI, if_neg (by omega), slices_Index_string_string.j7_eq, hd]
    exact ⟨-1, rfl, rfl⟩
  | n + 1, i, e => by
    obtain ⟨y, hy, hd⟩ := drop_at (l := l) (i := i) (by omega)
    rw [slices_Index_string_string.l2_eq, iteB_ltI, if_pos (by omega), atL_nat, hy, bindO_some', iteB_eqS, hd, List.any_cons]
    by_cases h : v = y
    · rw [if_pos h]
      refine ⟨_, rfl, ?_⟩
      have : decide (y = v) = true := decide_eq_true h.symm
      rw [this]
      unfold leI; simp
    · rw [if_neg h, addI64 (i : Int) 1 (by omega) (by omega), show (i : Int) + 1 = ((i + 1 : Nat) : Int) by omega]
      obtain ⟨r, h1, h2⟩ := index_l2 l v hl n (i + 1) (by omega)
      have : decide (y = v) = false := decide_eq_false (fun e => h e.symm)
      exact ⟨r, h1, by rw [h2, this]; rfl⟩

theorem contains_ok (l : List ByteArray) (v : ByteArray) (hl : l.length ≤ 1048576) : slices_Contains_string_string (l, v) = some (l.any (fun y => decide (y = v))) := by
  obtain ⟨r, h1, h2⟩ := index_l2 l v hl l.length 0 (by omega)
  rw [show ((0 : Nat) : Int) = 0 from rfl] at h1
  rw [slices_Contains_string_string_eq, slices_Index_string_string_eq, lenL_eq, h1, bindO_some', h2]
  rfl

def stopsL : List ByteArray := [bs [97], bs [97, 110], bs [97, 110, 100], bs [111, 102], bs [116, 104, 101], bs [116, 111]]

theorem stop_l3 (v : ByteArray) (l : List ByteArray) (hl : l.length ≤ 1000) : ∀ (n i : Nat), i + n = l.length → spec_l1Stop.l3 v i l = some ((l.drop i).any (fun y => decide (y = v)))
  | 0, i, e => by
    have hd : l.drop i = [] := List.drop_eq_nil_of_le (by omega)
    rw [spec_l1Stop.l3_eq, iteB_ltI, lenL_eq, if_neg (by omega), spec_l1Stop.j7_eq, hd]; rfl
  | n + 1, i, e => by
    obtain ⟨y, hy, hd⟩ := drop_at (l := l) (i := i) (by omega)
    have c1 : ((i : Int) < (l.length : Int)) = True := eq_true (by omega)
    have c2 : ((0 : Int) ≤ (i : Int)) = True := eq_true (by omega)
    rw [spec_l1Stop.l3_eq]
    simp only [iteB_ltI, iteB_leI, lenL_eq, atL_nat, hy, bindO_some', c1, c2, if_true, iteB_eqS]
    rw [hd, List.any_cons]
    by_cases h : y = v
    · rw [if_pos h, decide_eq_true h]; rfl
    · rw [if_neg h, addI64 (i : Int) 1 (by omega) (by omega), show (i : Int) + 1 = ((i + 1 : Nat) : Int) by omega, stop_l3 v l hl n (i + 1) (by omega), decide_eq_false h]; rfl

def stopB (v : ByteArray) : Bool := stopsL.any (fun y => decide (y = v))
theorem l1Stop_ok (v : ByteArray) : spec_l1Stop v = some (stopB v) := by
  rw [spec_l1Stop_eq]
  exact stop_l3 v stopsL (by decide) 6 0 rfl

def lastV (z : ByteArray) : ByteArray := if stopB z = true then bs [] else z
theorem j6_ok (z : ByteArray) : impl_Stem.j6 z = some (lastV z) := by
  have h := contains_ok stopsL z (by decide)
  have h : slices_Contains_string_string (((bs [97]) :: ((bs [97, 110]) :: ((bs [97, 110, 100]) :: ((bs [111, 102]) :: ((bs [116, 104, 101]) :: ((bs [116, 111]) :: ([] : List ByteArray))))))), z) = some (stopB z) := h
  rw [impl_Stem.j6_eq, h, bindO_some']
  unfold lastV iteB
  cases stopB z <;> rfl
theorem j7_ok (z : ByteArray) : spec_Stem.j7 z = some (lastV z) := by
  rw [spec_Stem.j7_eq, l1Stop_ok, bindO_some']
  unfold lastV iteB
  cases stopB z <;> rfl

theorem cut_all (y : ByteArray) : cutS y 0 (lenS y) = y := by
  apply toL_inj
  have := cutS_toL y 0 y.size
  rw [show ((0 : Nat) : Int) = 0 from rfl] at this
  unfold lenS
  rw [this]; simp [← toL_len]

/-- Both stems, from the text that is cut. -/
theorem stems_j4 (z : ByteArray) : ∃ v, spec_Stem.j4 z = some v ∧
    (iteB (ltI (3 : Int) (lenS z)) (bindO (atS z (subI Go.IntKind.i64 (lenS z) (1 : Int))) (fun (y2 : Int) => iteB (eqI y2 (115 : Int)) (bindO (atS z (subI Go.IntKind.i64 (lenS z) (2 : Int))) (fun (y3 : Int) => iteB (notB (eqI y3 (115 : Int))) (iteB (okCut (0 : Int) (subI Go.IntKind.i64 (lenS z) (1 : Int)) (lenS z)) (impl_Stem.j6 (cutS z (0 : Int) (subI Go.IntKind.i64 (lenS z) (1 : Int)))) (none)) (impl_Stem.j6 z))) (impl_Stem.j6 z))) (impl_Stem.j6 z)) = some v ∨ 1048576 < z.size := by
  by_cases hz : z.size ≤ 1048576
  · rw [spec_Stem.j4_eq]
    simp only [j6_ok, j7_ok]
    by_cases h3 : (3 : Int) < lenS z
    · have h3' : 3 < z.size := by unfold lenS at h3; omega
      rw [iteB_ltI, if_pos h3, lenS_eq, subI64 _ 1 (by omega) (by omega), subI64 _ 2 (by omega) (by omega), show (z.size : Int) - 1 = ((z.size - 1 : Nat) : Int) by omega, show (z.size : Int) - 2 = ((z.size - 2 : Nat) : Int) by omega,
        atS_nat z (z.size - 1) (by omega), atS_nat z (z.size - 2) (by omega), bindO_some', bindO_some', iteB_okCut, if_pos (by omega)]
      unfold iteB
      cases eqI (byteAt z (z.size - 1)) 115 <;> cases notB (eqI (byteAt z (z.size - 2)) 115) <;> exact ⟨_, .inl ⟨rfl, rfl⟩⟩
    · rw [iteB_ltI, if_neg h3]
      exact ⟨_, .inl ⟨rfl, rfl⟩⟩
  · exact ⟨z, .inr (by omega)⟩

theorem foldI_size (s : ByteArray) : (foldI s).size = s.size := by
  unfold foldI strOf
  show (List.toArray _).size = _
  simp [rowOfS_len]

theorem stems_ok (w : ByteArray) (hw : w.size ≤ 1048576) : ∃ v, spec_Stem w = some v ∧ impl_Stem w = some v := by
  have hf := foldI_size w
  rw [spec_Stem_eq, impl_Stem_eq, sFold_ok w hw, iFold_ok w hw, bindO_some', bindO_some', iteB_ltI, iteB_okCut]
  have hl : lenS (foldI w) = (w.size : Int) := by unfold lenS; rw [hf]
  by_cases h : (12 : Int) < lenS (foldI w)
  · have hm : minI (lenS (foldI w)) 12 = 12 := by unfold minI; rw [if_pos h]
    rw [if_pos h, hm, iteB_okCut, if_pos (by omega), if_pos (by omega)]
    obtain ⟨v, h1 | h1⟩ := stems_j4 (cutS (foldI w) 0 12)
    · exact ⟨v, h1.1, h1.2⟩
    · exfalso
      have := cutS_toL (foldI w) 0 12
      have h2 := congrArg List.length this
      rw [toL_len, List.length_take] at h2
      rw [show ((0 : Nat) : Int) = 0 from rfl, show ((12 : Nat) : Int) = 12 from rfl] at h2
      omega
  · have hm : minI (lenS (foldI w)) 12 = lenS (foldI w) := by unfold minI; rw [if_neg h]
    rw [if_neg h, hm, cut_all, iteB_okCut, if_pos (by omega)]
    obtain ⟨v, h1 | h1⟩ := stems_j4 (foldI w)
    · exact ⟨v, h1.1, h1.2⟩
    · omega

noncomputable def stemV (w : ByteArray) : ByteArray := (spec_Stem w).getD (bs [])
theorem sStem_ok (w : ByteArray) (hw : w.size ≤ 1048576) : spec_Stem w = some (stemV w) := by
  obtain ⟨v, h, _⟩ := stems_ok w hw; unfold stemV; rw [h]; rfl
theorem iStem_ok (w : ByteArray) (hw : w.size ≤ 1048576) : impl_Stem w = some (stemV w) := by
  obtain ⟨v, h, k⟩ := stems_ok w hw; unfold stemV; rw [h, k]; rfl

noncomputable def brightB (terms : List ByteArray) (w : ByteArray) : Bool := !decide (stemV w = bs []) && terms.any (fun y => decide (y = stemV w))

theorem looked_l3 (terms : List ByteArray) (t : ByteArray) (hl : terms.length ≤ 1048576) : ∀ (n i : Nat), i + n = terms.length → spec_l9Looked.l3 terms t i = some (!decide (t = bs []) && (terms.drop i).any (fun y => decide (y = t)))
  | 0, i, e => by
    have hd : terms.drop i = [] := List.drop_eq_nil_of_le (by omega)
    rw [spec_l9Looked.l3_eq, iteB_ltI, lenL_eq, if_neg (by omega), spec_l9Looked.j7_eq, hd]; simp
  | n + 1, i, e => by
    obtain ⟨y, hy, hd⟩ := drop_at (l := terms) (i := i) (by omega)
    rw [spec_l9Looked.l3_eq, iteB_ltI, lenL_eq, if_pos (by omega), iteB_notB, iteB_eqS, atL_nat, hy, bindO_some', iteB_eqS, addI64 (i : Int) 1 (by omega) (by omega), show (i : Int) + 1 = ((i + 1 : Nat) : Int) by omega, looked_l3 terms t hl n (i + 1) (by omega), hd, List.any_cons]
    by_cases h1 : t = bs []
    · rw [if_pos h1, decide_eq_true h1]; rfl
    · rw [if_neg h1, decide_eq_false h1]
      by_cases h2 : y = t
      · rw [if_pos h2, decide_eq_true h2]; rfl
      · rw [if_neg h2, decide_eq_false h2]; rfl

theorem looked_ok (terms : List ByteArray) (hl : terms.length ≤ 1048576) (w : ByteArray) (hw : w.size ≤ 1048576) : spec_l9Looked (w, terms) = some (brightB terms w) := by
  rw [spec_l9Looked_eq, sStem_ok w hw, bindO_some']
  have := looked_l3 terms (stemV w) hl terms.length 0 (by omega)
  exact this

theorem bright_ok (terms : List ByteArray) (hl : terms.length ≤ 1048576) (w : ByteArray × (Int × Int)) (hw : w.1.size ≤ 1048576) : impl_bright (w, terms) = some (brightB terms w.1) := by
  rw [impl_bright_eq, iStem_ok w.1 hw, bindO_some', iteB_notB, iteB_eqS, contains_ok terms _ hl, bindO_some']
  unfold brightB
  by_cases h : stemV w.1 = bs []
  · rw [if_pos h, decide_eq_true h]; rfl
  · rw [if_neg h, decide_eq_false h]; rfl

/-! Words, as the program finds them. -/

theorem words_l6 (s : ByteArray) (hs : s.size ≤ 1048576) (i : Nat) (out : List (ByteArray × (Int × Int))) : ∀ (n k : Nat), k + n = s.size → impl_Words.l6 s k i out = impl_Words.j8 s ((k + (((toL s).drop k).takeWhile alB).length : Nat) : Int) i out
  | 0, k, e => by
    have hd : (toL s).drop k = [] := List.drop_eq_nil_of_le (by rw [toL_len]; omega)
    rw [impl_Words.l6_eq, iteB_ltI, lenS_eq, if_neg (by omega), hd]; rfl
  | n + 1, k, e => by
    obtain ⟨b, hb, hd⟩ := drop_at (l := toL s) (i := k) (by rw [toL_len]; omega)
    rw [impl_Words.l6_eq, iteB_ltI, lenS_eq, if_pos (by omega), atS_toL hb, bindO_some', wordByte_ok, bindO_some']
    have e1 : alnumB (b.toNat : Int) = alB b := rfl
    rw [e1, hd]
    cases ha : alB b with
    | true =>
      rw [iteB_t, addI64 (k : Int) 1 (by omega) (by omega)]
      have := words_l6 s hs i out n (k + 1) (by omega)
      rw [show (k : Int) + 1 = ((k + 1 : Nat) : Int) by omega, this]
      simp only [List.takeWhile_cons, ha, if_true, List.length_cons]
      congr 2; omega
    | false =>
      rw [iteB_f]
      simp [ha]

theorem words_end (i : Nat) : wordsP i [] = [] := by simp [wordsP, wl, fl]

theorem wordsI_l3 (s : ByteArray) (hs : s.size ≤ 1048576) : ∀ (n i : Nat) (out : List (ByteArray × (Int × Int))), s.size - i ≤ n → i ≤ s.size + 1 → out.length ≤ i → impl_Words.l3 s i out = some (out ++ (wordsP i ((toL s).drop i)).map wOf)
  | n, i, out, hn, hi, ho => by
    by_cases hlt : i < s.size
    · obtain ⟨b, hb, hd⟩ := drop_at (l := toL s) (i := i) (by rw [toL_len]; omega)
      have htl : (((toL s).drop i).takeWhile alB).length ≤ s.size - i := by
        have := (List.takeWhile_prefix alB (l := (toL s).drop i)).length_le
        rw [List.length_drop, toL_len] at this; exact this
      rw [impl_Words.l3_eq, iteB_ltI, lenS_eq, if_pos (by omega), words_l6 s hs i out (s.size - i) i (by omega), impl_Words.j8_eq, iteB_ltI, iteB_okCut, iteB_room, lenS_eq]
      cases n with
      | zero => omega
      | succ n =>
      by_cases h0 : ((toL s).drop i).takeWhile alB = []
      · rw [h0, if_neg (by simp), impl_Words.j4_eq]
        simp only [List.length_nil, Nat.add_zero]
        rw [addI64 (i : Int) 1 (by omega) (by omega), show (i : Int) + 1 = ((i + 1 : Nat) : Int) by omega, wordsI_l3 s hs n (i + 1) out (by omega) (by omega) (by omega)]
        have : alB b = false := by
          rw [hd] at h0
          cases ha : alB b with
          | false => rfl
          | true => simp [ha] at h0
        rw [hd, wordsP_skip this]
      · have hpos : 0 < (((toL s).drop i).takeWhile alB).length := List.length_pos_iff.2 h0
        rw [if_pos (by omega), if_pos (by omega), if_pos (by simp; rw [roomMax_eq]; omega), impl_Words.j4_eq]
        unfold appL
        rw [addI64 _ 1 (by omega) (by omega), show ((i + (((toL s).drop i).takeWhile alB).length : Nat) : Int) + 1 = ((i + (((toL s).drop i).takeWhile alB).length + 1 : Nat) : Int) by omega,
          wordsI_l3 s hs n (i + (((toL s).drop i).takeWhile alB).length + 1) _ (by omega) (by omega) (by simp; omega)]
        rw [wordsP_take h0 i, List.map_cons, List.append_assoc, List.drop_drop]
        have hrest : wordsP (i + (((toL s).drop i).takeWhile alB).length) ((toL s).drop (i + (((toL s).drop i).takeWhile alB).length)) = wordsP (i + (((toL s).drop i).takeWhile alB).length + 1) ((toL s).drop (i + (((toL s).drop i).takeWhile alB).length + 1)) := by
          by_cases hk : i + (((toL s).drop i).takeWhile alB).length < s.size
          · obtain ⟨c, hc, hdc⟩ := drop_at (l := toL s) (i := i + (((toL s).drop i).takeWhile alB).length) (by rw [toL_len]; omega)
            have hnot : alB c = false := by
              cases ha : alB c with
              | false => rfl
              | true =>
                exfalso
                have e1 : (toL s).drop i = ((toL s).drop i).takeWhile alB ++ c :: (toL s).drop (i + (((toL s).drop i).takeWhile alB).length + 1) := by
                  rw [← hdc, ← List.drop_drop]
                  have := List.takeWhile_append_dropWhile (p := alB) (l := (toL s).drop i)
                  have hp := List.prefix_iff_eq_take.1 (List.takeWhile_prefix alB (l := (toL s).drop i))
                  conv => rhs; rw [hp]
                  rw [List.length_take]
                  have hmin : min (((toL s).drop i).takeWhile alB).length ((toL s).drop i).length = (((toL s).drop i).takeWhile alB).length := by
                    rw [List.length_drop, toL_len]; omega
                  rw [hmin, List.take_append_drop]
                have e2 : ((toL s).drop i).takeWhile alB = ((toL s).drop i).takeWhile alB ++ c :: (((toL s).drop (i + (((toL s).drop i).takeWhile alB).length + 1)).takeWhile alB) := by
                  conv => lhs; rw [e1]
                  rw [List.takeWhile_append_of_pos (fun z hz => by
                    exact List.all_eq_true.1 (List.all_takeWhile (l := (toL s).drop i) (p := alB)) z hz)]
                  simp [ha]
                have := congrArg List.length e2
                simp at this
            rw [hdc, wordsP_skip hnot]
          · have h1 : (toL s).drop (i + (((toL s).drop i).takeWhile alB).length) = [] := List.drop_eq_nil_of_le (by rw [toL_len]; omega)
            have h2 : (toL s).drop (i + (((toL s).drop i).takeWhile alB).length + 1) = [] := List.drop_eq_nil_of_le (by rw [toL_len]; omega)
            rw [h1, h2, words_end, words_end]
        rw [hrest]
        congr 2
        simp only [List.singleton_append, List.cons.injEq, and_true]
        unfold wOf
        congr 1
        rw [← toB_toL (cutS s _ _), cutS_toL]
        congr 1
        rw [Nat.add_sub_cancel_left]
        exact (List.prefix_iff_eq_take.1 (List.takeWhile_prefix alB)).symm
    · have h1 : (toL s).drop i = [] := List.drop_eq_nil_of_le (by rw [toL_len]; omega)
      rw [impl_Words.l3_eq, iteB_ltI, lenS_eq, if_neg (by omega), impl_Words.j10_eq, h1, words_end]; simp

theorem iWords_ok (s : ByteArray) (hs : s.size ≤ 1048576) : impl_Words s = some ((wordsP 0 (toL s)).map wOf) := by
  rw [impl_Words_eq]
  have := wordsI_l3 s hs s.size 0 [] (by omega) (by omega) (Nat.zero_le _)
  simpa using this

theorem textOk_ok (s : ByteArray) (hs : s.size ≤ 1048576) : impl_textOk s = some ((toL s).all seenB && decide ((s.size : Int) ≤ 60)) := by
  rw [impl_textOk_eq, impl_plain_eq]
  have := loop_all (l := fun i => impl_plain.l2 s 60 (lenS s) i) (n := s.size) (p := fun i => decide (32 ≤ byteAt s i ∧ byteAt s i ≤ 126)) (fin := decide ((s.size : Int) ≤ 60)) (fun i hi => ?_) ?_ s.size 0 (by omega)
  · have e := range_all s (fun b => decide (32 ≤ b ∧ b ≤ 126))
    rw [e] at this
    have h2 : impl_plain.l2 s 60 (lenS s) 0 = some ((toL s).all seenB && decide ((s.size : Int) ≤ 60)) := this
    rw [h2, bindO_some']
  · rw [impl_plain.l2_eq, iteB_ltI, lenS_eq, if_pos (by omega), atS_nat s i hi, bindO_some']
    have hb : 0 ≤ byteAt s i ∧ byteAt s i ≤ 255 := by
      have hi' : i < (toL s).length := hi
      have := atS_toL (List.getElem?_eq_getElem hi')
      rw [atS_nat s i hi] at this
      rw [Option.some.inj this]; exact byte_le _
    have hc : convI Go.IntKind.i64 (byteAt s i) = byteAt s i := IntWalk.i64_in _ ⟨by omega, by omega⟩
    rw [hc, within_ok, bindO_some', iteB_notB, addI64 (i : Int) 1 (by omega) (by omega)]
    unfold iteB
    rfl
  · rw [impl_plain.l2_eq, iteB_ltI, lenS_eq, if_neg (by omega), impl_plain.j7_eq]; rfl
end Go.E

set_option linter.unusedVariables false
namespace Go.E
open Go

/-! Plain: Snip, in both; the law 'FnExactSnip'. -/

/-- Words one behind the other. -/
def OrdP : Nat → Nat → List W3 → Prop
  | lo, hi, [] => lo ≤ hi
  | lo, hi, w :: r => lo ≤ w.2.1 ∧ w.2.1 ≤ w.2.2 ∧ OrdP w.2.2 hi r

theorem OrdP.weak : ∀ {ws : List W3} {lo lo' hi : Nat}, OrdP lo hi ws → lo' ≤ lo → OrdP lo' hi ws
  | [], _, _, _, h, k => by have h : _ ≤ _ := h; exact Nat.le_trans k h
  | w :: r, _, _, _, h, k => ⟨Nat.le_trans k h.1, h.2.1, h.2.2⟩

theorem wl_ord : ∀ (t : List UInt8) (i : Nat), OrdP (i + (wl i t).1.length) (i + t.length) (wl i t).2
  | [], i => by simp [wl, OrdP]
  | b :: r, i => by
    have ih := wl_ord r (i + 1)
    have e : i + (b :: r).length = i + 1 + r.length := by simp; omega
    rw [e, wl]
    split
    · rw [show i + (b :: (wl (i + 1) r).1).length = i + 1 + (wl (i + 1) r).1.length by simp; omega]
      exact ih
    · simp only [List.length_nil, Nat.add_zero, fl]
      split
      · exact ih.weak (by omega)
      · exact ⟨by simp only; omega, by simp only; omega, ih⟩

theorem wordsP_ord (t : List UInt8) (i : Nat) : OrdP i (i + t.length) (wordsP i t) := by
  have h := wl_ord t i
  unfold wordsP fl
  split
  · exact h.weak (by omega)
  · exact ⟨Nat.le_refl _, by simp only; omega, h⟩

theorem ord_lo : ∀ {ws : List W3} {lo hi q : Nat} {w : W3}, OrdP lo hi ws → ws[q]? = some w → lo ≤ w.2.1 ∧ w.2.1 ≤ w.2.2 ∧ w.2.2 ≤ hi
  | [], _, _, _, _, _, h => by simp at h
  | x :: r, lo, hi, 0, w, h, hw => by
    simp at hw; subst hw
    have hend : ∀ {ws : List W3} {a b : Nat}, OrdP a b ws → a ≤ b := by
      intro ws
      induction ws with
      | nil => intro a b h; exact h
      | cons y r ih => intro a b h; exact Nat.le_trans h.1 (Nat.le_trans h.2.1 (ih h.2.2))
    exact ⟨h.1, h.2.1, hend h.2.2⟩
  | x :: r, lo, hi, q + 1, w, h, hw => by
    have := ord_lo h.2.2 (q := q) (w := w) (by simpa using hw)
    exact ⟨Nat.le_trans h.1 (Nat.le_trans h.2.1 this.1), this.2⟩

theorem ord_two : ∀ {ws : List W3} {lo hi p q : Nat} {v w : W3}, OrdP lo hi ws → p ≤ q → ws[p]? = some v → ws[q]? = some w → v.2.1 ≤ w.2.2 ∧ w.2.2 ≤ hi
  | [], _, _, _, _, _, _, _, _, h, _ => by simp at h
  | x :: r, lo, hi, 0, q, v, w, h, _, hv, hw => by
    simp at hv; subst hv
    cases q with
    | zero => simp at hw; subst hw; have := ord_lo h (q := 0) (w := x) rfl; exact ⟨this.2.1, this.2.2⟩
    | succ q =>
      have := ord_lo h.2.2 (q := q) (w := w) (by simpa using hw)
      exact ⟨Nat.le_trans h.2.1 (Nat.le_trans this.1 this.2.1), this.2.2⟩
  | x :: r, lo, hi, p + 1, 0, v, w, h, hpq, _, _ => by omega
  | x :: r, lo, hi, p + 1, q + 1, v, w, h, hpq, hv, hw => ord_two (p := p) (q := q) h.2.2 (by omega) (by simpa using hv) (by simpa using hw)

abbrev WL := List (ByteArray × (Int × Int))

/-- The first of the best windows. -/
def bestF (c : Nat → Int) : Nat → Nat → Int → Nat → Nat
  | 0, best, _, _ => best
  | d + 1, best, most, i => if most < c i then bestF c d i (c i) (i + 1) else bestF c d best most (i + 1)

theorem bestF_le (c : Nat → Int) : ∀ (d best : Nat) (most : Int) (i B : Nat), best ≤ B → i + d ≤ B + 1 → bestF c d best most i ≤ B
  | 0, best, most, i, B, h, _ => h
  | d + 1, best, most, i, B, h, k => by
    rw [bestF]
    split
    · exact bestF_le c d i _ (i + 1) B (by omega) (by omega)
    · exact bestF_le c d best _ (i + 1) B h (by omega)

section
variable (s : ByteArray) (terms : List ByteArray) (ht : terms.length ≤ 1048576) (W : WL) (hW : W.length ≤ 1048577) (hw : ∀ w ∈ W, w.1.size ≤ 1048576)

noncomputable def cntW (l : WL) : Nat := l.countP (fun w => brightB terms w.1)

include ht hW hw in
theorem s_l13 (m : Nat) (best most : Int) (i : Nat) (him : i + m ≤ W.length) : ∀ (d k n : Nat), k + d = i + m → n + d ≤ 2000000 →
    spec_Snip.l13 s terms m best most i n k W = spec_Snip.j17 s terms m best most i ((n + cntW terms ((W.drop k).take d) : Nat) : Int) W
  | 0, k, n, e, hn => by
    rw [spec_Snip.l13_eq, iteB_ltI, addI64 (i : Int) m (by omega) (by omega), if_neg (by omega)]; simp [cntW]
  | d + 1, k, n, e, hn => by
    obtain ⟨x, hx, hd⟩ := drop_at (l := W) (i := k) (by omega)
    have c1 : ((k : Int) < (W.length : Int)) = True := eq_true (by omega)
    have c2 : ((0 : Int) ≤ (k : Int)) = True := eq_true (by omega)
    have c3 : ((k : Int) < (i : Int) + (m : Int)) = True := eq_true (by omega)
    have hxs := hw x (List.mem_of_getElem? hx)
    rw [spec_Snip.l13_eq, addI64 (i : Int) m (by omega) (by omega)]
    simp only [iteB_ltI, iteB_leI, lenL_eq, atL_nat, hx, bindO_some', c1, c2, c3, if_true, looked_ok terms ht x.1 hxs]
    rw [hd, List.take_succ_cons]
    have next : ∀ n' : Nat, n' + d ≤ 2000000 → spec_Snip.j14 s terms m best most i n' k W = spec_Snip.j17 s terms m best most i ((n' + cntW terms ((W.drop (k + 1)).take d) : Nat) : Int) W := fun n' hn' => by
      rw [spec_Snip.j14_eq, addI64 (k : Int) 1 (by omega) (by omega), show (k : Int) + 1 = ((k + 1 : Nat) : Int) by omega]
      exact s_l13 m best most i him d (k + 1) n' (by omega) hn'
    have hc : cntW terms (x :: (W.drop (k + 1)).take d) = (if brightB terms x.1 = true then 1 else 0) + cntW terms ((W.drop (k + 1)).take d) := by
      unfold cntW; rw [List.countP_cons]; omega
    rw [hc]
    cases hb : brightB terms x.1 with
    | true =>
      rw [iteB_t, addI64 (n : Int) 1 (by omega) (by omega), show (n : Int) + 1 = ((n + 1 : Nat) : Int) by omega, next (n + 1) (by omega), if_pos rfl]
      congr 2; omega
    | false =>
      rw [iteB_f, next n (by omega), if_neg (by simp)]
      congr 2; omega

include ht hW hw in
theorem s_l9 (m : Nat) (hm : 1 ≤ m) (hmN : m ≤ W.length) : ∀ (d i best : Nat) (most : Int), i + d = W.length - m + 1 →
    spec_Snip.l9 s terms m best most i W = spec_Snip.j20 s m ((bestF (fun i => (cntW terms ((W.drop i).take m) : Int)) d best most i : Nat) : Int) W
  | 0, i, best, most, e => by
    rw [spec_Snip.l9_eq, iteB_leI, addI64 (i : Int) m (by omega) (by omega), lenL_eq, if_neg (by omega)]; rfl
  | d + 1, i, best, most, e => by
    have h13 := s_l13 s terms ht W hW hw m best most i (by omega) m i 0 rfl (by omega)
    rw [show ((0 : Nat) : Int) = 0 from rfl] at h13
    rw [spec_Snip.l9_eq, iteB_leI, addI64 (i : Int) m (by omega) (by omega), lenL_eq, if_pos (by omega), h13, Nat.zero_add, spec_Snip.j17_eq, iteB_ltI, bestF]
    split
    · rw [spec_Snip.j10_eq, addI64 (i : Int) 1 (by omega) (by omega), show (i : Int) + 1 = ((i + 1 : Nat) : Int) by omega]
      exact s_l9 m hm hmN d (i + 1) i _ (by omega)
    · rw [spec_Snip.j10_eq, addI64 (i : Int) 1 (by omega) (by omega), show (i : Int) + 1 = ((i + 1 : Nat) : Int) by omega]
      exact s_l9 m hm hmN d (i + 1) best most (by omega)

include ht in
theorem i_l11 (m : Nat) (best most : Int) (i : Nat) (C : WL) (hC : C.length ≤ 1048577) (hcw : ∀ w ∈ C, w.1.size ≤ 1048576) : ∀ (d j n : Nat), j + d = C.length → n + d ≤ 2000000 →
    impl_Snip.l11 s terms m best most i n C (C.length : Int) j W = impl_Snip.j16 s terms m best most i ((n + cntW terms (C.drop j) : Nat) : Int) W
  | 0, j, n, e, hn => by
    have hd : C.drop j = [] := List.drop_eq_nil_of_le (by omega)
    rw [impl_Snip.l11_eq, iteB_ltI, if_neg (by omega), hd]; simp [cntW]
  | d + 1, j, n, e, hn => by
    obtain ⟨x, hx, hd⟩ := drop_at (l := C) (i := j) (by omega)
    have hxs := hcw x (List.mem_of_getElem? hx)
    have hb' : impl_bright ((x.1, (x.2.1, x.2.2)), terms) = some (brightB terms x.1) := bright_ok terms ht x hxs
    rw [impl_Snip.l11_eq, iteB_ltI, if_pos (by omega), atL_nat, hx, bindO_some', hb', bindO_some', hd]
    have next : ∀ n' : Nat, n' + d ≤ 2000000 → impl_Snip.j15 s terms m best most i n' C (C.length : Int) j W = impl_Snip.j16 s terms m best most i ((n' + cntW terms (C.drop (j + 1)) : Nat) : Int) W := fun n' hn' => by
      rw [impl_Snip.j15_eq, addI64 (j : Int) 1 (by omega) (by omega), show (j : Int) + 1 = ((j + 1 : Nat) : Int) by omega]
      exact i_l11 m best most i C hC hcw d (j + 1) n' (by omega) hn'
    have hc : cntW terms (x :: C.drop (j + 1)) = (if brightB terms x.1 = true then 1 else 0) + cntW terms (C.drop (j + 1)) := by
      unfold cntW; rw [List.countP_cons]; omega
    rw [hc]
    cases hb : brightB terms x.1 with
    | true =>
      rw [iteB_t, addI64 (n : Int) 1 (by omega) (by omega), show (n : Int) + 1 = ((n + 1 : Nat) : Int) by omega, next (n + 1) (by omega), if_pos rfl]
      congr 2; omega
    | false =>
      rw [iteB_f, next n (by omega), if_neg (by simp)]
      congr 2; omega

theorem cut_win (i m : Nat) : cutL W (i : Int) ((i : Int) + (m : Int)) = (W.drop i).take m := by
  unfold cutL
  rw [show ((i : Int) + (m : Int)).toNat = i + m by omega, Int.toNat_natCast, List.drop_take]
  congr 1; omega

include ht hW hw in
theorem i_win (m : Nat) (best most : Int) (i : Nat) (him : i + m ≤ W.length) : impl_Snip.l11 s terms m best most i 0 (cutL W (i : Int) ((i : Int) + (m : Int))) (lenL (cutL W (i : Int) ((i : Int) + (m : Int)))) 0 W =
    impl_Snip.j16 s terms m best most i ((cntW terms ((W.drop i).take m) : Nat) : Int) W := by
  rw [cut_win]
  have hl : ((W.drop i).take m).length ≤ 1048577 := by rw [List.length_take, List.length_drop]; omega
  have := i_l11 s terms ht W m best most i ((W.drop i).take m) hl (fun w h => hw w (List.mem_of_mem_drop (List.mem_of_mem_take h))) _ 0 0 (Nat.zero_add _) (by omega)
  rw [show ((0 : Nat) : Int) = 0 from rfl] at this
  rw [lenL_eq, this, List.drop_zero, Nat.zero_add]

include ht hW hw in
theorem i_l71 (m : Nat) (hm : 1 ≤ m) (hmN : m ≤ W.length) : ∀ (d i best : Nat) (most : Int), i + d = W.length - m + 1 →
    impl_Snip.l7_1 s terms m best most i W = impl_Snip.j18_1 s m ((bestF (fun i => (cntW terms ((W.drop i).take m) : Int)) d best most i : Nat) : Int) W
  | 0, i, best, most, e => by
    rw [impl_Snip.l7_1_eq, iteB_leI, addI64 (i : Int) m (by omega) (by omega), lenL_eq, if_neg (by omega)]; rfl
  | d + 1, i, best, most, e => by
    rw [impl_Snip.l7_1_eq, iteB_leI, addI64 (i : Int) m (by omega) (by omega), lenL_eq, if_pos (by omega), iteB_okCut, if_pos (by omega)]
    rw [i_win s terms ht W hW hw m best most i (by omega), impl_Snip.j16_eq, iteB_ltI, bestF]
    split
    · rw [impl_Snip.j8_eq, addI64 (i : Int) 1 (by omega) (by omega), show (i : Int) + 1 = ((i + 1 : Nat) : Int) by omega]
      exact i_l71 m hm hmN d (i + 1) i _ (by omega)
    · rw [impl_Snip.j8_eq, addI64 (i : Int) 1 (by omega) (by omega), show (i : Int) + 1 = ((i + 1 : Nat) : Int) by omega]
      exact i_l71 m hm hmN d (i + 1) best most (by omega)

include ht hW hw in
theorem i_l7 (m : Nat) (hm : 1 ≤ m) (hmN : m ≤ W.length) (best : Nat) (most : Int) :
    impl_Snip.l7 s terms m best most 0 W = impl_Snip.j18_1 s m ((bestF (fun i => (cntW terms ((W.drop i).take m) : Int)) (W.length - m + 1) best most 0 : Nat) : Int) W := by
  have hwin := i_win s terms ht W hW hw m best most 0 (by omega)
  rw [show ((0 : Nat) : Int) = 0 from rfl] at hwin
  rw [impl_Snip.l7_eq, iteB_leI, addI64 0 m (by omega) (by omega), lenL_eq, if_pos (by omega), iteB_okCut, if_pos (by omega), hwin, impl_Snip.j16_eq, iteB_ltI, bestF]
  split
  · rw [impl_Snip.j8_eq, addI64 0 1 (by omega) (by omega)]
    have := i_l71 s terms ht W hW hw m hm hmN (W.length - m) 1 0 ((cntW terms ((W.drop 0).take m) : Nat) : Int) (by omega)
    exact this
  · rw [impl_Snip.j8_eq, addI64 0 1 (by omega) (by omega)]
    have := i_l71 s terms ht W hW hw m hm hmN (W.length - m) 1 best most (by omega)
    exact this
end

/-- A piece of words. -/
noncomputable def snipV (s : ByteArray) (terms : List ByteArray) (many : Int) : ByteArray := (spec_Snip (s, (terms, many))).getD (bs [])

/-- What both pieces are. -/
def SnipIs (s : ByteArray) (terms : List ByteArray) (many : Int) (v : ByteArray) : Prop := v = bs [] ∨ ∃ (m b : Nat) (w1 w2 : W3), 1 ≤ m ∧ (m : Int) = (if (((wordsP 0 (toL s)).length : Nat) : Int) < many then (((wordsP 0 (toL s)).length : Nat) : Int) else many) ∧ b + m ≤ (wordsP 0 (toL s)).length ∧
  b = bestF (fun i => (cntW terms ((((wordsP 0 (toL s)).map wOf).drop i).take m) : Int)) ((wordsP 0 (toL s)).length - m + 1) 0 (-1) 0 ∧ s.size ≤ 60 ∧ (wordsP 0 (toL s))[b]? = some w1 ∧ (wordsP 0 (toL s))[b + m - 1]? = some w2 ∧ v = cutS s (w1.2.1 : Int) (w2.2.2 : Int)

theorem snips_char (s : ByteArray) (hs : s.size ≤ 1048576) (terms : List ByteArray) (ht : terms.length ≤ 1048576) (many : Int) : ∃ v, spec_Snip (s, (terms, many)) = some v ∧ impl_Snip (s, (terms, many)) = some v ∧ SnipIs s terms many v := by
  have hlen := wordsP_len (toL s) 0
  have hge := lenW_ge (wordsP 0 (toL s))
  rw [toL_len] at hlen
  have hW : ((wordsP 0 (toL s)).map wOf).length ≤ 1048577 := by rw [List.length_map]; omega
  have hsize : ∀ ws : List W3, ∀ w ∈ ws, w.1.length + 1 ≤ lenW ws := by
    intro ws
    induction ws with
    | nil => intro w h; cases h
    | cons x r ih =>
      intro w h
      simp only [lenW]
      rcases List.mem_cons.1 h with rfl | h
      · omega
      · have := ih w h; omega
  have hw : ∀ w ∈ (wordsP 0 (toL s)).map wOf, w.1.size ≤ 1048576 := fun w h => by
    obtain ⟨x, hx, rfl⟩ := List.mem_map.1 h
    have := hsize _ x hx
    have e : (wOf x).1.size = x.1.length := by unfold wOf toB; simp [ByteArray.size]
    rw [e]; omega
  rw [spec_Snip_eq, impl_Snip_eq, sWords_ok s hs, iWords_ok s hs, bindO_some', bindO_some', l2Text_ok s hs, textOk_ok s hs, bindO_some', bindO_some', iteB_notB, iteB_notB]
  cases hT : ((toL s).all seenB && decide ((s.size : Int) ≤ 60)) with
  | false => exact ⟨bs [], rfl, rfl, .inl rfl⟩
  | true =>
    have h60 : s.size ≤ 60 := by
      rw [Bool.and_eq_true, decide_eq_true_eq] at hT
      omega
    have hNl : ((wordsP 0 (toL s)).map wOf).length = (wordsP 0 (toL s)).length := List.length_map _
    rw [iteB_t, iteB_t, iteB_ltI, iteB_eqI, iteB_eqI, lenL_eq, iteB_ltI, iteB_ltI]
    by_cases h1 : many < 1
    · rw [if_pos h1]
      refine ⟨bs [], rfl, ?_, .inl rfl⟩
      split
      · rfl
      · rfl
    · rw [if_neg h1]
      by_cases h0 : ((((wordsP 0 (toL s)).map wOf).length : Nat) : Int) = 0
      · rw [if_pos h0, if_pos h0]; exact ⟨bs [], rfl, rfl, .inl rfl⟩
      · rw [if_neg h0, if_neg h0, if_neg h1]
        have hNN : 1 ≤ ((wordsP 0 (toL s)).map wOf).length := by omega
        have key : ∀ m : Nat, 1 ≤ m → m ≤ ((wordsP 0 (toL s)).map wOf).length → (m : Int) = (if (((wordsP 0 (toL s)).length : Nat) : Int) < many then (((wordsP 0 (toL s)).length : Nat) : Int) else many) → ∃ v, spec_Snip.j6 s terms m ((wordsP 0 (toL s)).map wOf) = some v ∧ impl_Snip.l7 s terms m 0 (-1) 0 ((wordsP 0 (toL s)).map wOf) = some v ∧ SnipIs s terms many v := fun m hm hmN hmm => by
          have hsp := s_l9 s terms ht _ hW hw m hm hmN (((wordsP 0 (toL s)).map wOf).length - m + 1) 0 0 (-1) (by omega)
          have him := i_l7 s terms ht _ hW hw m hm hmN 0 (-1)
          rw [show ((0 : Nat) : Int) = 0 from rfl] at hsp him
          rw [spec_Snip.j6_eq, hsp, him]
          have hb := bestF_le (fun i => (cntW terms ((((wordsP 0 (toL s)).map wOf).drop i).take m) : Int)) (((wordsP 0 (toL s)).map wOf).length - m + 1) 0 (-1) 0 (((wordsP 0 (toL s)).map wOf).length - m) (by omega) (by omega)
          have hbe : ∃ b', b' = bestF (fun i => (cntW terms ((((wordsP 0 (toL s)).map wOf).drop i).take m) : Int)) (((wordsP 0 (toL s)).map wOf).length - m + 1) 0 (-1) 0 := ⟨_, rfl⟩
          obtain ⟨b', hbe⟩ := hbe
          rw [← hbe] at hb
          rw [← hbe]
          have e1 := List.getElem?_eq_getElem (l := wordsP 0 (toL s)) (i := b') (by omega)
          have e2 := List.getElem?_eq_getElem (l := wordsP 0 (toL s)) (i := b' + m - 1) (by omega)
          have f1 : ((wordsP 0 (toL s)).map wOf)[b']? = some (wOf (wordsP 0 (toL s))[b']) := by rw [List.getElem?_map, e1]; rfl
          have f2 : ((wordsP 0 (toL s)).map wOf)[b' + m - 1]? = some (wOf (wordsP 0 (toL s))[b' + m - 1]) := by rw [List.getElem?_map, e2]; rfl
          have hord := ord_two (wordsP_ord (toL s) 0) (p := b') (q := b' + m - 1) (by omega) e1 e2
          rw [toL_len, Nat.zero_add] at hord
          have es : subI Go.IntKind.i64 (addI Go.IntKind.i64 (b' : Int) (m : Int)) 1 = ((b' + m - 1 : Nat) : Int) := by
            rw [addI64 _ _ (by omega) (by omega), subI64 _ 1 (by omega) (by omega)]; omega
          rw [spec_Snip.j20_eq, impl_Snip.j18_1_eq]
          simp only [es, iteB_leI, iteB_ltI, iteB_okCut, lenL_eq, lenS_eq, atL_nat, f1, f2, bindO_some']
          have o1 : (wOf (wordsP 0 (toL s))[b']).2.1 = ((wordsP 0 (toL s))[b'].2.1 : Int) := rfl
          have o2 : (wOf (wordsP 0 (toL s))[b' + m - 1]).2.2 = ((wordsP 0 (toL s))[b' + m - 1].2.2 : Int) := rfl
          rw [o1, o2]
          have hcut : ((0 : Int) ≤ ((wordsP 0 (toL s))[b'].2.1 : Int) ∧ ((wordsP 0 (toL s))[b'].2.1 : Int) ≤ ((wordsP 0 (toL s))[b' + m - 1].2.2 : Int) ∧ ((wordsP 0 (toL s))[b' + m - 1].2.2 : Int) ≤ (s.size : Int)) = True := eq_true ⟨by omega, by omega, by omega⟩
          have c1 : ((0 : Int) ≤ (b' : Int)) = True := eq_true (by omega)
          have c2 : ((b' : Int) < (((wordsP 0 (toL s)).map wOf).length : Int)) = True := eq_true (by omega)
          have c3 : ((0 : Int) ≤ ((b' + m - 1 : Nat) : Int)) = True := eq_true (by omega)
          have c4 : (((b' + m - 1 : Nat) : Int) < (((wordsP 0 (toL s)).map wOf).length : Int)) = True := eq_true (by omega)
          simp only [hcut, c1, c2, c3, c4, if_true]
          refine ⟨_, rfl, rfl, .inr ⟨m, b', _, _, hm, hmm, by omega, by rw [hbe, hNl], h60, e1, e2, rfl⟩⟩
        by_cases hc : ((((wordsP 0 (toL s)).map wOf).length : Nat) : Int) < many
        · have hmin : minI many ((((wordsP 0 (toL s)).map wOf).length : Nat) : Int) = ((((wordsP 0 (toL s)).map wOf).length : Nat) : Int) := by unfold minI; rw [if_pos hc]
          rw [if_pos hc, hmin]
          exact key _ hNN (Nat.le_refl _) (by rw [hNl, if_pos (by omega)])
        · have hmin : minI many ((((wordsP 0 (toL s)).map wOf).length : Nat) : Int) = many := by unfold minI; rw [if_neg hc]
          rw [if_neg hc, hmin]
          obtain ⟨m, rfl⟩ : ∃ m : Nat, many = (m : Int) := ⟨many.toNat, by omega⟩
          exact key m (by omega) (by omega) (by rw [if_neg (by omega)])

theorem snips_ok (s : ByteArray) (hs : s.size ≤ 1048576) (terms : List ByteArray) (ht : terms.length ≤ 1048576) (many : Int) : ∃ v, spec_Snip (s, (terms, many)) = some v ∧ impl_Snip (s, (terms, many)) = some v := by
  obtain ⟨v, h1, h2, _⟩ := snips_char s hs terms ht many
  exact ⟨v, h1, h2⟩

theorem szS_l5 (l : List ByteArray) (hg : ∀ x ∈ l, x.size ≤ 9223372036854775807) (hn : l.length ≤ 1048576) : ∀ (n i : Nat) (left : Int), i + n = l.length → 0 ≤ left → left ≤ 1048576 →
    ∃ v, laws_szStringS.l5 l left i = some v
  | 0, i, left, e, h0, h1 => by
    rw [laws_szStringS.l5_eq, iteB_ltI, lenL_eq, if_neg (by omega), laws_szStringS.j10_eq]; exact ⟨_, rfl⟩
  | n + 1, i, left, e, h0, h1 => by
    obtain ⟨x, hx, hd⟩ := drop_at (l := l) (i := i) (by omega)
    have hxs := hg x (List.mem_of_getElem? hx)
    rw [laws_szStringS.l5_eq, iteB_ltI, lenL_eq, if_pos (by omega), atL_nat, hx, bindO_some', lenS_eq, subI64 left _ (by omega) (by omega), iteB_ltI]
    by_cases hc : left - (x.size : Int) < 0
    · rw [if_pos hc]; exact ⟨_, rfl⟩
    · rw [if_neg hc, addI64 (i : Int) 1 (by omega) (by omega), show (i : Int) + 1 = ((i + 1 : Nat) : Int) by omega]
      exact szS_l5 l hg hn n (i + 1) _ (by omega) (by omega) (by omega)

theorem szS_ok (l : List ByteArray) (hg : ∀ x ∈ l, x.size ≤ 9223372036854775807) (hn : l.length ≤ 9223372036854775807) : ∃ v, laws_szStringS (l, 1048576) = some v ∧ (0 ≤ v → l.length ≤ 1048576) := by
  rw [laws_szStringS_eq, lenL_eq, subI64 1048576 _ (by omega) (by omega), iteB_ltI]
  by_cases hc : (1048576 : Int) - (l.length : Int) < 0
  · rw [if_pos hc]; exact ⟨-1, rfl, fun h => by omega⟩
  · rw [if_neg hc]
    obtain ⟨v, k1⟩ := szS_l5 l hg (by omega) l.length 0 (1048576 - (l.length : Int)) (by omega) (by omega) (by omega)
    exact ⟨v, k1, fun hv => by omega⟩

theorem toS_l3 (l : List ByteArray) (hn : l.length ≤ 1048576) (z : ByteArray) : ∀ (n i : Nat), i + n = l.length → laws_toStringS.l3 l i (l.take i ++ List.replicate n z) = some l
  | 0, i, e => by
    rw [laws_toStringS.l3_eq, iteB_ltI, lenL_eq, if_neg (by omega), laws_toStringS.j6_eq, List.take_of_length_le (by omega)]; simp
  | n + 1, i, e => by
    obtain ⟨x, hx, hd⟩ := drop_at (l := l) (i := i) (by omega)
    have hl : (l.take i ++ List.replicate (n + 1) z).length = l.length := by simp; omega
    have hat : (l.take i ++ List.replicate (n + 1) z)[i]? = some z := by
      rw [List.getElem?_append_right (by simp; omega)]
      simp only [List.length_take]
      rw [Nat.min_eq_left (by omega), Nat.sub_self]; rfl
    have ht : l.take (i + 1) = l.take i ++ [x] := by rw [List.take_add_one, hx]; rfl
    have hset : setL (l.take i ++ List.replicate (n + 1) z) i x = l.take (i + 1) ++ List.replicate n z := by
      unfold setL
      rw [Int.toNat_natCast, List.set_append_right _ _ (by simp; omega), ht]
      simp only [List.length_take]
      rw [Nat.min_eq_left (by omega), Nat.sub_self, List.replicate_succ]; simp
    rw [laws_toStringS.l3_eq, iteB_ltI, lenL_eq, if_pos (by omega), atL_nat, hx, bindO_some', iteB_leI, if_pos (by omega), iteB_ltI, lenL_eq, hl, if_pos (by omega), atL_nat, hat, bindO_some', hset,
      addI64 (i : Int) 1 (by omega) (by omega), show (i : Int) + 1 = ((i + 1 : Nat) : Int) by omega]
    exact toS_l3 l hn z n (i + 1) (by omega)

theorem toS_ok (l : List ByteArray) (hn : l.length ≤ 1048576) : laws_toStringS l = some l := by
  rw [laws_toStringS_eq, lenL_eq, iteB_eqI, if_pos rfl, iteB_roomN, if_pos (by rw [roomMax_eq]; omega)]
  exact toS_l3 l hn _ l.length 0 (by omega)

theorem eqSS_ok (l : List ByteArray) (hn : l.length ≤ 1048576) : laws_eqStringS (l, l) = some true := by
  rw [laws_eqStringS_eq, iteB_notB, iteB_eqI, if_pos rfl]
  have := loop_all (l := fun i => laws_eqStringS.l4 l l i) (n := l.length) (p := fun _ => true) (fin := true) (fun i hi => ?_) ?_ l.length 0 (by omega)
  · exact this.trans (by simp)
  · rw [laws_eqStringS.l4_eq, iteB_ltI, lenL_eq, if_pos (by omega)]
    simp only [atL_nat, List.getElem?_eq_getElem hi, bindO_some', iteB_notB, iteB_eqS, if_true]
    rw [addI64 (i : Int) 1 (by omega) (by omega)]; rfl
  · rw [laws_eqStringS.l4_eq, iteB_ltI, lenL_eq, if_neg (by omega), laws_eqStringS.j8_eq]

theorem exactSnip (s : ByteArray) (terms : List ByteArray) (many : Int) (hg : ∀ x ∈ terms, x.size ≤ 9223372036854775807) (hn : terms.length ≤ 9223372036854775807) : laws_FnExactSnip (s, (terms, many)) = some true := by
  rw [laws_FnExactSnip_eq, iteB_ltI, lenS_eq]
  by_cases htb : (1048576 : Int) < (s.size : Int)
  · rw [if_pos htb]
  · rw [if_neg htb]
    obtain ⟨v, h1, h2⟩ := szS_ok terms hg hn
    rw [h1, bindO_some', iteB_ltI]
    by_cases hv : v < 0
    · rw [if_pos hv]
    · have ht := h2 (by omega)
      obtain ⟨x, e1, e2⟩ := snips_ok s (by omega) terms ht many
      rw [if_neg hv]
      simp only [toS_ok terms ht, bindO_some', e1, e2, iteB_notB, iteB_eqS, if_true, eqSS_ok terms ht, iteB_t]

theorem exactSnip' (s : ByteArray) (terms : List ByteArray) (many : Int) (h1 : Good' .str s) (h2 : Good' (.sl .str) terms) (h3 : Good' (.int .i64) many) : laws_FnExactSnip (s, (terms, many)) = some true := by
  obtain ⟨k1, k2⟩ := h2
  have hm : maxLen = 9223372036854775807 := by decide
  rw [hm] at k1
  refine exactSnip s terms many (fun x hx => ?_) k1
  have h3 : x.size ≤ maxLen := k2 x hx
  rw [hm] at h3; exact h3
end Go.E

set_option linter.unusedVariables false
namespace Go.E
open Go

/-! Plain: what is drawn, over this seat's functions. -/

theorem xor_ok (a b : Int) (ha : 0 ≤ a) (hb : 0 ≤ b) (ha' : a < 1099511627776) (hb' : b < 1099511627776) : 0 ≤ xorI Go.IntKind.i64 a b ∧ xorI Go.IntKind.i64 a b < 1099511627776 := by
  obtain ⟨m, rfl⟩ : ∃ m : Nat, a = (m : Int) := ⟨a.toNat, by omega⟩
  obtain ⟨n, rfl⟩ : ∃ n : Nat, b = (n : Int) := ⟨b.toNat, by omega⟩
  have hm : m < 2 ^ 40 := by omega
  have hn : n < 2 ^ 40 := by omega
  have e : (BitVec.ofInt Go.IntKind.i64.bits (m : Int) ^^^ BitVec.ofInt Go.IntKind.i64.bits (n : Int)).toNat = m ^^^ n := by
    have hbits : Go.IntKind.i64.bits = 64 := rfl
    rw [BitVec.toNat_xor, BitVec.toNat_ofInt, BitVec.toNat_ofInt, hbits]
    have h1 : ((m : Int) % ((2 ^ 64 : Nat) : Int)).toNat = m := by omega
    have h2 : ((n : Int) % ((2 ^ 64 : Nat) : Int)).toNat = n := by omega
    rw [h1, h2]
  have hx : m ^^^ n < 2 ^ 40 := Nat.xor_lt_two_pow hm hn
  unfold xorI
  rw [e]
  have hw : Go.IntKind.i64.wrap ((m ^^^ n : Nat) : Int) = ((m ^^^ n : Nat) : Int) := IntWalk.i64_in _ ⟨by omega, by omega⟩
  rw [hw]; omega

def Bytes (c : List Int) : Prop := c.length ≤ 2000 ∧ ∀ b ∈ c, 0 ≤ b ∧ b ≤ 255

theorem mod_ok (a n : Int) (ha : 0 ≤ a) (hn : 0 < n) : 0 ≤ modI a n ∧ modI a n < n := by
  unfold modI
  exact ⟨Int.tmod_nonneg _ ha, Int.tmod_lt_of_pos _ hn⟩

theorem at_mod {c : List Int} (hc : Bytes c) (h0 : 0 < c.length) (a : Int) (ha : 0 ≤ a) : ∃ b, atL c (modI a (c.length : Int)) = some b ∧ 0 ≤ b ∧ b ≤ 255 := by
  obtain ⟨h1, h2⟩ := mod_ok a c.length ha (by omega)
  obtain ⟨h, e⟩ := atL_get c _ h1 h2
  exact ⟨_, e, hc.2 _ (List.getElem_mem h)⟩

/-- A number is picked. -/
theorem pick_ok {c : List Int} (hc : Bytes c) {p n : Int} (hp : 0 ≤ p) (hp' : p ≤ 1000000) (hn : 1 ≤ n) (hn' : n ≤ 1000) : ∃ v, spec_l1Rd_pick ((c, p), n) = some (v, (c, p + 1)) ∧ 0 ≤ v ∧ v < n := by
  rw [spec_l1Rd_pick_eq, addI64 p 1 (by omega) (by omega), subI64 (p + 1) 1 (by omega) (by omega), show p + 1 - 1 = p by omega]
  simp only [iteB_ltI, iteB_eqI, lenL_eq]
  rw [if_neg (by omega)]
  by_cases h0 : (c.length : Int) = 0
  · rw [if_pos h0]; exact ⟨0, rfl, by omega, by omega⟩
  · have hlen : 0 < c.length := by omega
    have hl2 := hc.1
    have hconv : ∀ b : Int, 0 ≤ b → b ≤ 255 → convI Go.IntKind.i64 b = b := fun b h1 h2 => IntWalk.i64_in _ ⟨by omega, by omega⟩
    rw [if_neg h0]
    by_cases hlt : p < (c.length : Int)
    · rw [if_pos hlt]
      obtain ⟨h, e⟩ := atL_get c p hp hlt
      have hb := hc.2 _ (List.getElem_mem h)
      rw [e, bindO_some', if_neg (by omega), hconv _ hb.1 hb.2]
      exact ⟨_, rfl, mod_ok _ _ hb.1 (by omega)⟩
    · rw [if_neg hlt, if_neg h0]
      obtain ⟨b1, e1, k1, k2⟩ := at_mod hc hlen p hp
      have em : mulI Go.IntKind.i64 p 7 = p * 7 := IntWalk.i64_in _ ⟨by omega, by omega⟩
      obtain ⟨b2, e2, k3, k4⟩ := at_mod hc hlen (p * 7 + 3) (by omega)
      rw [e1, bindO_some', if_neg h0, em, addI64 (p * 7) 3 (by omega) (by omega), e2, bindO_some', if_neg h0, if_neg (by omega), if_neg (by omega), hconv b1 k1 k2, hconv b2 k3 k4]
      have m1 : mulI Go.IntKind.i64 b1 131 = b1 * 131 := IntWalk.i64_in _ ⟨by omega, by omega⟩
      have m2 : mulI Go.IntKind.i64 b2 1117 = b2 * 1117 := IntWalk.i64_in _ ⟨by omega, by omega⟩
      have m3 : mulI Go.IntKind.i64 p 29 = p * 29 := IntWalk.i64_in _ ⟨by omega, by omega⟩
      have hd : 0 ≤ p.tdiv c.length ∧ p.tdiv c.length ≤ p := by
        rw [Int.tdiv_eq_ediv_of_nonneg hp]
        exact ⟨Int.ediv_nonneg hp (by omega), Int.ediv_le_self _ hp⟩
      have d1 : divI Go.IntKind.i64 p (c.length : Int) = p.tdiv c.length := IntWalk.i64_in _ ⟨by omega, by omega⟩
      have m4 : mulI Go.IntKind.i64 (p.tdiv c.length) 53 = p.tdiv c.length * 53 := IntWalk.i64_in _ ⟨by omega, by omega⟩
      rw [m1, m2, m3, d1, m4, addI64 (b1 * 131) (b2 * 1117) (by omega) (by omega), addI64 (b1 * 131 + b2 * 1117) (p * 29) (by omega) (by omega), addI64 (b1 * 131 + b2 * 1117 + p * 29) _ (by omega) (by omega)]
      have hx0 : 0 ≤ b1 * 131 + b2 * 1117 + p * 29 + p.tdiv c.length * 53 ∧ b1 * 131 + b2 * 1117 + p * 29 + p.tdiv c.length * 53 ≤ 1000000000 := by omega
      generalize b1 * 131 + b2 * 1117 + p * 29 + p.tdiv c.length * 53 = x at hx0
      have hd2 : 0 ≤ x.tdiv 64 ∧ x.tdiv 64 ≤ x := by
        rw [Int.tdiv_eq_ediv_of_nonneg hx0.1]
        exact ⟨Int.ediv_nonneg hx0.1 (by omega), Int.ediv_le_self _ hx0.1⟩
      have d2 : divI Go.IntKind.i64 x 64 = x.tdiv 64 := IntWalk.i64_in _ ⟨by omega, by omega⟩
      rw [d2]
      have hxx := xor_ok x (x.tdiv 64) hx0.1 hd2.1 (by omega) (by omega)
      exact ⟨_, rfl, mod_ok _ _ hxx.1 (by omega)⟩

theorem pickOf_ok {c : List Int} (hc : Bytes c) {p : Int} (hp : 0 ≤ p) (hp' : p ≤ 1000000) (l : List ByteArray) (h1 : 1 ≤ l.length) (h2 : l.length ≤ 1000) : ∃ s ∈ l, spec_l1Rd_of ((c, p), l) = some (s, (c, p + 1)) := by
  obtain ⟨v, e, k1, k2⟩ := pick_ok hc hp hp' (n := (l.length : Int)) (by omega) (by omega)
  obtain ⟨h, e2⟩ := atL_get l v k1 k2
  refine ⟨_, List.getElem_mem h, ?_⟩
  rw [spec_l1Rd_of_eq]
  simp only [lenL_eq, e, bindO_some', e2]

theorem open_ok (c : List Int) (hc : ∀ b ∈ c, 0 ≤ b ∧ b ≤ 255) : ∃ d, spec_l1Open c = some (d, 0) ∧ Bytes d := by
  rw [spec_l1Open_eq, iteB_ltI, lenL_eq]
  by_cases h : (2000 : Int) < (c.length : Int)
  · rw [if_pos h, iteB_okCut, if_pos (by omega), spec_l1Open.j3_eq]
    refine ⟨_, rfl, ?_, fun b hb => ?_⟩
    · unfold cutL; simp; omega
    · unfold cutL at hb
      exact hc b (List.mem_of_mem_take (by simpa using hb))
  · rw [if_neg h, spec_l1Open.j3_eq]
    exact ⟨_, rfl, by omega, hc⟩

theorem cat_size (a b : ByteArray) : (catS a b).size = a.size + b.size := by rw [← toL_len, toL_cat, List.length_append, toL_len, toL_len]

theorem many_l2 : ∀ (k : Nat) (a b : ByteArray) (h : Int) (B : Nat), 0 ≤ h → h ≤ 1000 → h < 2 ^ k → a.size ≤ B → b.size ≤ B → B * 2 ^ k ≤ 1000000 → ∃ v, spec_l1Many.l2 a h b = some v ∧ v.size ≤ B * 2 ^ k
  | 0, a, b, h, B, h0, hm, h1, ha, hb, hB => by
    have : h < 1 := by simpa using h1
    rw [spec_l1Many.l2_eq, iteB_ltI, if_neg (by omega), spec_l1Many.j7_eq]
    exact ⟨b, rfl, by omega⟩
  | k + 1, a, b, h, B, h0, hm, h1, ha, hb, hB => by
    have hp : (2 : Nat) ^ (k + 1) = 2 ^ k * 2 := Nat.pow_succ 2 k
    have hp' : (2 : Int) ^ (k + 1) = 2 ^ k * 2 := Int.pow_succ 2 k
    have hk1 : 1 ≤ (2 : Nat) ^ k := Nat.one_le_two_pow
    have hBB : B * 2 ^ (k + 1) = 2 * B * 2 ^ k := by rw [hp, ← Nat.mul_assoc, Nat.mul_comm, ← Nat.mul_assoc]
    have hB2 : 2 * B ≤ 1000000 := Nat.le_trans (Nat.le_mul_of_pos_right _ hk1) (hBB ▸ hB)
    rw [spec_l1Many.l2_eq, iteB_ltI]
    by_cases hp : 0 < h
    · rw [if_pos hp]
      have hd : divI Go.IntKind.i64 h 2 = h / 2 := by
        have e : h.tdiv 2 = h / 2 := Int.tdiv_eq_ediv_of_nonneg h0
        have : divI Go.IntKind.i64 h 2 = h.tdiv 2 := IntWalk.i64_in _ ⟨by omega, by omega⟩
        rw [this, e]
      have j5 : ∀ c : ByteArray, c.size ≤ 2 * B → ∃ v, spec_l1Many.j5 a h c = some v ∧ v.size ≤ B * 2 ^ (k + 1) := fun c hc => by
        rw [spec_l1Many.j5_eq, iteB_roomS, if_pos (by rw [roomMax_eq]; omega), iteB_eqI, if_neg (by omega), hd]
        obtain ⟨v, e1, e2⟩ := many_l2 k (catS a a) c (h / 2) (2 * B) (by omega) (by omega) (by omega) (by rw [cat_size]; omega) hc (hBB ▸ hB)
        exact ⟨v, e1, hBB ▸ e2⟩
      rw [iteB_eqI, if_neg (by omega), iteB_eqI]
      split
      · rw [iteB_roomS, if_pos (by rw [roomMax_eq]; omega)]
        exact j5 _ (by rw [cat_size]; omega)
      · exact j5 b (by omega)
    · rw [if_neg hp, spec_l1Many.j7_eq]
      exact ⟨b, rfl, Nat.le_trans hb (Nat.le_mul_of_pos_right _ (by omega))⟩

theorem many_ok (a : ByteArray) (ha : a.size ≤ 1) (n : Int) (h0 : 0 ≤ n) (h1 : n < 64) : ∃ v, spec_l1Many (a, n) = some v ∧ v.size ≤ 64 := by
  rw [spec_l1Many_eq]
  exact many_l2 6 a (bs []) n 1 h0 (by omega) h1 ha (by decide) (by decide)

theorem word_draw {c : List Int} (hc : Bytes c) {p : Int} (hp : 0 ≤ p) (hp' : p ≤ 1000000) : ∃ s, spec_l11Word (c, p) = some (s, (c, p + 1)) ∧ s.size ≤ 100 := by
  obtain ⟨s, hs, e⟩ := pickOf_ok hc hp hp' [bs [114, 101, 100], bs [82, 101, 100], bs [97, 112, 112, 108, 101], bs [97, 112, 112, 108, 101, 115], bs [112, 105, 101], bs [116, 104, 101], bs [111, 102], bs [103, 108, 97, 115, 115], bs [98, 117, 115], bs [116, 114, 101, 101], bs [116, 114, 101, 101, 115], bs [55], bs [118, 101, 114, 121, 108, 111, 110, 103, 119, 111, 114, 100, 105, 110, 100, 101, 101, 100], bs [97]] (by simp) (by simp)
  refine ⟨s, ?_, ?_⟩
  · rw [spec_l11Word_eq]; simp only [e, bindO_some']
  · have : ∀ s ∈ [bs [114, 101, 100], bs [82, 101, 100], bs [97, 112, 112, 108, 101], bs [97, 112, 112, 108, 101, 115], bs [112, 105, 101], bs [116, 104, 101], bs [111, 102], bs [103, 108, 97, 115, 115], bs [98, 117, 115], bs [116, 114, 101, 101], bs [116, 114, 101, 101, 115], bs [55], bs [118, 101, 114, 121, 108, 111, 110, 103, 119, 111, 114, 100, 105, 110, 100, 101, 101, 100], bs [97]], s.size ≤ 100 := by decide
    exact this s hs

theorem text_l3 {c : List Int} (hc : Bytes c) : ∀ (n : Nat) (acc : ByteArray) (p : Int), n ≤ 6 → 0 ≤ p → p + 2 * (n : Int) ≤ 100000 → acc.size + 200 * n ≤ 5000 → ∃ acc' p', spec_l11Text.l3 acc n c p = some (acc', (c, p')) ∧ acc'.size ≤ acc.size + 200 * n ∧ 0 ≤ p' ∧ p' ≤ p + 2 * n
  | 0, acc, p, hn, hp, hp', h => by
    rw [spec_l11Text.l3_eq, iteB_ltI, if_neg (by omega), spec_l11Text.j6_eq]
    exact ⟨acc, p, rfl, by omega, by omega, by omega⟩
  | n + 1, acc, p, hn, hp, hp', h => by
    obtain ⟨s, e1, hs⟩ := word_draw hc hp (by omega)
    obtain ⟨z, hz, e2⟩ := pickOf_ok hc (p := p + 1) (by omega) (by omega) [bs [32], bs [44, 32], bs [45], bs [32], bs [46]] (by simp) (by simp)
    have hzs : z.size ≤ 100 := by
      have : ∀ s ∈ [bs [32], bs [44, 32], bs [45], bs [32], bs [46]], s.size ≤ 100 := by decide
      exact this z hz
    have hcs : (catS (catS acc s) z).size ≤ acc.size + 200 := by rw [cat_size, cat_size]; omega
    rw [spec_l11Text.l3_eq, iteB_ltI, if_pos (by omega), e1, bindO_some']
    simp only [iteB_roomS]
    rw [if_pos (by rw [roomMax_eq]; omega), e2, bindO_some']
    simp only [cat_size]
    rw [if_pos (by rw [roomMax_eq]; omega), subI64 ((n + 1 : Nat) : Int) 1 (by omega) (by omega), show ((n + 1 : Nat) : Int) - 1 = (n : Int) by omega]
    obtain ⟨acc', p', e3, h3, h4, h5⟩ := text_l3 hc n (catS (catS acc s) z) (p + 1 + 1) (by omega) (by omega) (by omega) (by omega)
    exact ⟨acc', p', e3, by omega, h4, by omega⟩

theorem text_draw {c : List Int} (hc : Bytes c) {p : Int} (hp : 0 ≤ p) (hp' : p ≤ 2000) : ∃ s p', spec_l11Text (c, p) = some (s, (c, p')) ∧ s.size ≤ 2000 ∧ 0 ≤ p' ∧ p' ≤ p + 20 := by
  obtain ⟨v, e, k1, k2⟩ := pick_ok hc hp (by omega) (n := 6) (by omega) (by omega)
  rw [spec_l11Text_eq]
  simp only [e, bindO_some']
  obtain ⟨n, rfl⟩ : ∃ n : Nat, v = (n : Int) := ⟨v.toNat, by omega⟩
  have hz : (bs []).size = 0 := rfl
  obtain ⟨acc', p', e3, h3, h4, h5⟩ := text_l3 hc n (bs []) (p + 1) (by omega) (by omega) (by omega) (by omega)
  exact ⟨acc', p', e3, by omega, h4, by omega⟩

theorem anyText_draw {c : List Int} (hc : Bytes c) {p : Int} (hp : 0 ≤ p) (hp' : p ≤ 1000) : ∃ s p', spec_l11AnyText (c, p) = some (s, (c, p')) ∧ s.size ≤ 3000 ∧ 0 ≤ p' ∧ p' ≤ p + 30 := by
  rw [spec_l11AnyText_eq]
  obtain ⟨v, e, k1, k2⟩ := pick_ok hc hp (by omega) (n := 14) (by omega) (by omega)
  simp only [e, bindO_some', iteB_eqI]
  by_cases h0 : v = 0
  · rw [if_pos h0]
    obtain ⟨w, e2, k3, k4⟩ := pick_ok hc (p := p + 1) (by omega) (by omega) (n := 2) (by omega) (by omega)
    obtain ⟨z, e3, hz⟩ := many_ok (bs [120]) (by decide) (60 + w) (by omega) (by omega)
    rw [e2, bindO_some']
    simp only
    rw [addI64 60 w (by omega) (by omega), e3, bindO_some']
    exact ⟨z, _, rfl, by omega, by omega, by omega⟩
  · rw [if_neg h0]
    obtain ⟨t, p1, e2, h1, h2, h3⟩ := text_draw hc (p := p + 1) (by omega) (by omega)
    simp only [e2, bindO_some']
    by_cases hv1 : v = 1
    · rw [if_pos hv1]
      obtain ⟨z, hz, e3⟩ := pickOf_ok hc (p := p1) (by omega) (by omega) [bs [10], bs [1], bs [127]] (by simp) (by simp)
      have hzs : z.size ≤ 100 := by
        have : ∀ s ∈ [bs [10], bs [1], bs [127]], s.size ≤ 100 := by decide
        exact this z hz
      rw [e3, bindO_some']
      simp only [iteB_roomS]
      rw [if_pos (by rw [roomMax_eq]; omega)]
      exact ⟨_, _, rfl, by rw [cat_size]; omega, by omega, by omega⟩
    · rw [if_neg hv1]
      exact ⟨t, p1, rfl, by omega, by omega, by omega⟩

theorem terms_l3 {c : List Int} (hc : Bytes c) : ∀ (n : Nat) (acc : List ByteArray) (p : Int), n ≤ 6 → 0 ≤ p → p + 2 * (n : Int) ≤ 100000 → acc.length + n ≤ 100 → ∃ acc' p', spec_l11Terms.l3 n acc c p = some (acc', (c, p')) ∧ acc'.length ≤ acc.length + n ∧ 0 ≤ p' ∧ p' ≤ p + n
  | 0, acc, p, hn, hp, hp', h => by
    rw [spec_l11Terms.l3_eq, iteB_ltI, if_neg (by omega), spec_l11Terms.j6_eq]
    exact ⟨acc, p, rfl, by omega, by omega, by omega⟩
  | n + 1, acc, p, hn, hp, hp', h => by
    obtain ⟨z, hz, e2⟩ := pickOf_ok hc (p := p) (by omega) (by omega) [bs [114, 101, 100], bs [97, 112, 112, 108, 101], bs [112, 105, 101], bs [], bs [103, 108, 97, 115, 115], bs [116, 114, 101, 101]] (by simp) (by simp)
    rw [spec_l11Terms.l3_eq, iteB_ltI, if_pos (by omega), e2, bindO_some', iteB_room, if_pos (by simp; rw [roomMax_eq]; omega), subI64 ((n + 1 : Nat) : Int) 1 (by omega) (by omega), show ((n + 1 : Nat) : Int) - 1 = (n : Int) by omega]
    have hl : (appL acc [z]).length = acc.length + 1 := by unfold appL; simp
    obtain ⟨acc', p', e3, h3, h4, h5⟩ := terms_l3 hc n (appL acc [z]) (p + 1) (by omega) (by omega) (by omega) (by omega)
    exact ⟨acc', p', e3, by omega, h4, by omega⟩

theorem terms_draw {c : List Int} (hc : Bytes c) {p : Int} (hp : 0 ≤ p) (hp' : p ≤ 1000) : ∃ s p', spec_l11Terms (c, p) = some (s, (c, p')) ∧ s.length ≤ 10 ∧ 0 ≤ p' ∧ p' ≤ p + 20 := by
  obtain ⟨v, e, k1, k2⟩ := pick_ok hc hp (by omega) (n := 4) (by omega) (by omega)
  rw [spec_l11Terms_eq]
  simp only [e, bindO_some']
  obtain ⟨n, rfl⟩ : ∃ n : Nat, v = (n : Int) := ⟨v.toNat, by omega⟩
  obtain ⟨acc', p', e3, h3, h4, h5⟩ := terms_l3 hc n [] (p + 1) (by omega) (by omega) (by omega) (by simp; omega)
  simp only [List.length_nil] at h3
  exact ⟨acc', p', e3, by omega, h4, by omega⟩

theorem drawSnip_ok (c : List Int) (hc : ∀ b ∈ c, 0 ≤ b ∧ b ≤ 255) : ∃ s terms many, spec_DrawSnip c = some (s, (terms, many)) ∧ s.size ≤ 3000 ∧ terms.length ≤ 10 := by
  obtain ⟨d, e1, hd⟩ := open_ok c hc
  obtain ⟨s, p1, e2, h1, h2, h3⟩ := anyText_draw hd (p := 0) (by omega) (by omega)
  obtain ⟨t, p2, e3, h4, h5, h6⟩ := terms_draw hd (p := p1) h2 (by omega)
  obtain ⟨v, e4, k1, k2⟩ := pick_ok hd (p := p2) (by omega) (by omega) (n := 6) (by omega) (by omega)
  refine ⟨s, t, subI Go.IntKind.i64 v 1, ?_, h1, h4⟩
  rw [spec_DrawSnip_eq, e1, bindO_some']
  simp only [e2, bindO_some', e3, e4]
end Go.E

set_option linter.unusedVariables false
namespace Go.E
open Go

/-! Plain: the words of a part of a text; the laws 'FnSnip' and 'FnSnipAll'. -/

theorem wordsP_gap : ∀ (g : List UInt8) (t : List UInt8) (i : Nat), (∀ b ∈ g, alB b = false) → wordsP i (g ++ t) = wordsP (i + g.length) t
  | [], t, i, _ => rfl
  | b :: g, t, i, h => by
    rw [List.cons_append, wordsP_skip (h b (List.mem_cons_self ..)), wordsP_gap g t (i + 1) (fun x hx => h x (List.mem_cons_of_mem _ hx)), List.length_cons]
    congr 1; omega

/-- A text that no word goes on into. -/
def NoHead (t : List UInt8) : Prop := ∀ b r, t = b :: r → alB b = false

theorem take_word (w t : List UInt8) (hw : ∀ b ∈ w, alB b = true) (ht : NoHead t) : (w ++ t).takeWhile alB = w := by
  rw [List.takeWhile_append_of_pos hw]
  cases t with
  | nil => simp
  | cons b r => rw [List.takeWhile_cons, ht b r rfl]; simp

theorem wordsP_app (g w t : List UInt8) (i : Nat) (hg : ∀ b ∈ g, alB b = false) (h0 : w ≠ []) (hw : ∀ b ∈ w, alB b = true) (ht : NoHead t) :
    wordsP i (g ++ (w ++ t)) = (w, i + g.length, i + g.length + w.length) :: wordsP (i + g.length + w.length) t := by
  have e := take_word w t hw ht
  rw [wordsP_gap g _ i hg, wordsP_take (by rw [e]; exact h0), e]
  simp

/-- The first word of a text, and what stands around it. -/
theorem wordsP_first : ∀ (t : List UInt8) (i : Nat) (w : W3) (r : List W3), wordsP i t = w :: r → ∃ g u, t = g ++ (w.1 ++ u) ∧ (∀ b ∈ g, alB b = false) ∧ w.1 ≠ [] ∧ (∀ b ∈ w.1, alB b = true) ∧ NoHead u ∧ w.2.1 = i + g.length ∧ w.2.2 = i + g.length + w.1.length ∧ r = wordsP w.2.2 u
  | [], i, w, r, h => by rw [words_end] at h; cases h
  | b :: t, i, w, r, h => by
    cases hb : alB b with
    | false =>
      rw [wordsP_skip hb] at h
      obtain ⟨g, u, h1, h2, h3, h4, h5, h6, h7, h8⟩ := wordsP_first t (i + 1) w r h
      refine ⟨b :: g, u, by rw [h1]; rfl, fun x hx => ?_, h3, h4, h5, by rw [h6, List.length_cons]; omega, by rw [h7, List.length_cons]; omega, h8⟩
      rcases List.mem_cons.1 hx with rfl | hx
      · exact hb
      · exact h2 x hx
    | true =>
      have hne : (b :: t).takeWhile alB ≠ [] := by simp [hb]
      rw [wordsP_take hne] at h
      have hc := List.cons.inj h
      obtain ⟨h1, h2⟩ := hc
      subst h1
      refine ⟨[], (b :: t).drop ((b :: t).takeWhile alB).length, ?_, fun x hx => (nomatch hx), hne, fun x hx => ?_, fun c v hc => ?_, rfl, rfl, h2.symm⟩
      · have hp := List.prefix_iff_eq_take.1 (List.takeWhile_prefix (l := b :: t) alB)
        show b :: t = [] ++ ((b :: t).takeWhile alB ++ _)
        conv => rhs; rw [List.nil_append]; arg 1; rw [hp]
        rw [List.take_append_drop]
      · exact List.all_eq_true.1 (List.all_takeWhile (l := b :: t) (p := alB)) x hx
      · have e := List.takeWhile_append_dropWhile (p := alB) (l := b :: t)
        have e2 : (b :: t).drop ((b :: t).takeWhile alB).length = (b :: t).dropWhile alB := by
          conv => lhs; arg 2; rw [← e]
          rw [List.drop_left]
        rw [e2] at hc
        have := List.head_dropWhile_not (p := alB) (l := b :: t) (by rw [hc]; simp)
        simp only [hc, List.head_cons] at this
        exact this

/-- What stands behind some words. -/
theorem wordsP_drop : ∀ (p : Nat) (t : List UInt8) (i : Nat) (w : W3), (wordsP i t)[p]? = some w → i ≤ w.2.1 ∧ wordsP w.2.1 (t.drop (w.2.1 - i)) = (wordsP i t).drop p
  | 0, t, i, w, h => by
    cases hw : wordsP i t with
    | nil => rw [hw] at h; simp at h
    | cons v r =>
      rw [hw] at h; simp at h; subst h
      obtain ⟨g, u, h1, h2, h3, h4, h5, h6, h7, h8⟩ := wordsP_first t i v r hw
      refine ⟨by omega, ?_⟩
      have hd : t.drop (v.2.1 - i) = [] ++ (v.1 ++ u) := by
        rw [h1, h6, show i + g.length - i = g.length by omega, List.drop_left]; rfl
      rw [hd, wordsP_app [] v.1 u _ (fun x hx => by cases hx) h3 h4 h5, h8]
      simp only [List.length_nil, Nat.add_zero, List.drop_zero]
      rw [h6, ← h7]
      obtain ⟨v1, v2, v3⟩ := v
      simp only at h6 h7 ⊢
      rw [h6]
  | p + 1, t, i, w, h => by
    cases hw : wordsP i t with
    | nil => rw [hw] at h; simp at h
    | cons v r =>
      rw [hw] at h; simp only [List.getElem?_cons_succ] at h
      obtain ⟨g, u, h1, h2, h3, h4, h5, h6, h7, h8⟩ := wordsP_first t i v r hw
      rw [h8] at h
      obtain ⟨k1, k2⟩ := wordsP_drop p u v.2.2 w h
      refine ⟨by omega, ?_⟩
      have hd : t.drop (w.2.1 - i) = u.drop (w.2.1 - v.2.2) := by
        rw [h1, ← List.append_assoc, List.drop_append, List.drop_eq_nil_of_le (by rw [List.length_append]; omega), List.nil_append, List.length_append]
        congr 1; omega
      rw [hd, k2, List.drop_succ_cons, h8]

/-- What stands ahead of some words. -/
theorem wordsP_upto : ∀ (k : Nat) (t : List UInt8) (i : Nat) (w : W3), (wordsP i t)[k]? = some w → i ≤ w.2.2 ∧ wordsP i (t.take (w.2.2 - i)) = (wordsP i t).take (k + 1)
  | 0, t, i, w, h => by
    cases hw : wordsP i t with
    | nil => rw [hw] at h; simp at h
    | cons v r =>
      rw [hw] at h; simp at h; subst h
      obtain ⟨g, u, h1, h2, h3, h4, h5, h6, h7, h8⟩ := wordsP_first t i v r hw
      refine ⟨by omega, ?_⟩
      have hd : t.take (v.2.2 - i) = g ++ (v.1 ++ []) := by
        rw [h1, List.append_nil, ← List.append_assoc, show v.2.2 - i = (g ++ v.1).length by rw [List.length_append]; omega, List.take_left]
      rw [hd, wordsP_app g v.1 [] i h2 h3 h4 (fun b r e => by cases e), words_end]
      obtain ⟨v1, v2, v3⟩ := v
      simp only at h6 h7 ⊢
      rw [h6, h7]; rfl
  | k + 1, t, i, w, h => by
    cases hw : wordsP i t with
    | nil => rw [hw] at h; simp at h
    | cons v r =>
      rw [hw] at h; simp only [List.getElem?_cons_succ] at h
      obtain ⟨g, u, h1, h2, h3, h4, h5, h6, h7, h8⟩ := wordsP_first t i v r hw
      rw [h8] at h
      obtain ⟨k1, k2⟩ := wordsP_upto k u v.2.2 w h
      refine ⟨by omega, ?_⟩
      have hd : t.take (w.2.2 - i) = g ++ (v.1 ++ u.take (w.2.2 - v.2.2)) := by
        rw [h1, ← List.append_assoc, List.take_append, List.take_of_length_le (by rw [List.length_append]; omega), List.length_append, List.append_assoc]
        congr 3; omega
      rw [hd, wordsP_app g v.1 _ i h2 h3 h4 (fun b x e => ?_)]
      · rw [← h6, show w.2.2 - v.2.2 = w.2.2 - v.2.2 from rfl]
        have hv : v = (v.1, v.2.1, v.2.1 + v.1.length) := by
          obtain ⟨v1, v2, v3⟩ := v
          simp only at h6 h7 ⊢
          rw [h6, ← h7]
        rw [show v.2.1 + v.1.length = v.2.2 by omega, k2, List.take_succ_cons, h8]
      · cases u with
        | nil => simp at e
        | cons c u =>
          have hc : (c :: u).take (w.2.2 - v.2.2) = b :: x := e
          cases hn : w.2.2 - v.2.2 with
          | zero => rw [hn] at hc; simp at hc
          | succ n =>
            rw [hn, List.take_succ_cons] at hc
            have := (List.cons.inj hc).1
            subst this
            exact h5 c u rfl

/-- The words' texts don't hang on where the text begins. -/
theorem wordsP_shift : ∀ (n : Nat) (t : List UInt8) (i j : Nat), t.length ≤ n → (wordsP i t).map (·.1) = (wordsP j t).map (·.1)
  | n, t, i, j, hn => by
    cases hi : wordsP i t with
    | nil =>
      cases hj : wordsP j t with
      | nil => rfl
      | cons v r =>
        obtain ⟨g, u, h1, h2, h3, h4, h5, h6, h7, h8⟩ := wordsP_first t j v r hj
        rw [h1, wordsP_app g v.1 u i h2 h3 h4 h5] at hi
        cases hi
    | cons v r =>
      obtain ⟨g, u, h1, h2, h3, h4, h5, h6, h7, h8⟩ := wordsP_first t i v r hi
      have hl : 0 < v.1.length := List.length_pos_iff.2 h3
      have hlen : t.length = g.length + (v.1.length + u.length) := by rw [h1]; simp
      cases n with
      | zero => omega
      | succ n =>
        rw [h1, wordsP_app g v.1 u j h2 h3 h4 h5, List.map_cons, List.map_cons, h8, wordsP_shift n u v.2.2 (j + g.length + v.1.length) (by omega)]

/-- The words of a part that runs from a word's begin to a word's end. -/
theorem part_words (t : List UInt8) (p m : Nat) (hm : 1 ≤ m) (w1 w2 : W3) (h1 : (wordsP 0 t)[p]? = some w1) (h2 : (wordsP 0 t)[p + m - 1]? = some w2) :
    (wordsP 0 ((t.drop w1.2.1).take (w2.2.2 - w1.2.1))).map (·.1) = (((wordsP 0 t).drop p).take m).map (·.1) := by
  obtain ⟨k1, k2⟩ := wordsP_drop p t 0 w1 h1
  rw [Nat.sub_zero] at k2
  have hw2 : (wordsP w1.2.1 (t.drop w1.2.1))[m - 1]? = some w2 := by
    rw [k2, List.getElem?_drop, show p + (m - 1) = p + m - 1 by omega, h2]
  obtain ⟨k3, k4⟩ := wordsP_upto (m - 1) _ _ w2 hw2
  rw [show m - 1 + 1 = m by omega] at k4
  rw [wordsP_shift _ _ 0 w1.2.1 (Nat.le_refl _), k4, k2]
end Go.E

set_option linter.unusedVariables false
namespace Go.E
open Go

noncomputable def termOf (x : List UInt8) : ByteArray := stemV (toB x)
def textsOf (t : List UInt8) : List (List UInt8) := (wordsP 0 t).map (·.1)
def lookB (terms : List ByteArray) (x : ByteArray) : Bool := !decide (x = bs []) && terms.any (fun y => decide (y = x))

theorem words_bound (s : ByteArray) (hs : s.size ≤ 1048576) : (wordsP 0 (toL s)).length ≤ 1048577 ∧ ∀ w ∈ (wordsP 0 (toL s)).map wOf, w.1.size ≤ 1048576 := by
  have hlen := wordsP_len (toL s) 0
  have hge := lenW_ge (wordsP 0 (toL s))
  rw [toL_len] at hlen
  have hsize : ∀ ws : List W3, ∀ w ∈ ws, w.1.length + 1 ≤ lenW ws := by
    intro ws
    induction ws with
    | nil => intro w h; cases h
    | cons x r ih =>
      intro w h
      simp only [lenW]
      rcases List.mem_cons.1 h with rfl | h
      · omega
      · have := ih w h; omega
  refine ⟨by omega, fun w h => ?_⟩
  obtain ⟨x, hx, rfl⟩ := List.mem_map.1 h
  have := hsize _ x hx
  have e : (wOf x).1.size = x.1.length := by unfold wOf toB; simp [ByteArray.size]
  rw [e]; omega

theorem terms_i3 (W : WL) (hW : W.length ≤ 1048577) (hw : ∀ w ∈ W, w.1.size ≤ 1048576) : ∀ (n i : Nat) (out : List ByteArray), i + n = W.length → out.length ≤ i →
    impl_Terms.l3 (W.length : Int) i W out = some (out ++ (W.drop i).map (fun w => stemV w.1))
  | 0, i, out, e, ho => by
    have hd : W.drop i = [] := List.drop_eq_nil_of_le (by omega)
    rw [impl_Terms.l3_eq, iteB_ltI, if_neg (by omega), impl_Terms.j7_eq, hd]; simp
  | n + 1, i, out, e, ho => by
    obtain ⟨x, hx, hd⟩ := drop_at (l := W) (i := i) (by omega)
    have c1 : ((i : Int) < (W.length : Int)) = True := eq_true (by omega)
    have c2 : ((0 : Int) ≤ (i : Int)) = True := eq_true (by omega)
    have hxs := hw x (List.mem_of_getElem? hx)
    rw [impl_Terms.l3_eq]
    simp only [iteB_ltI, iteB_leI, lenL_eq, atL_nat, hx, bindO_some', c1, c2, if_true, iStem_ok x.1 hxs, iteB_room]
    rw [if_pos (by simp; rw [roomMax_eq]; omega), addI64 (i : Int) 1 (by omega) (by omega), show (i : Int) + 1 = ((i + 1 : Nat) : Int) by omega]
    have hl : (appL out [stemV x.1]).length = out.length + 1 := by unfold appL; simp
    rw [terms_i3 W hW hw n (i + 1) _ (by omega) (by omega), hd, List.map_cons]
    unfold appL; simp

theorem iTerms_ok (s : ByteArray) (hs : s.size ≤ 1048576) : impl_Terms s = some ((textsOf (toL s)).map termOf) := by
  obtain ⟨h1, h2⟩ := words_bound s hs
  rw [impl_Terms_eq, iWords_ok s hs, bindO_some', lenL_eq]
  have := terms_i3 ((wordsP 0 (toL s)).map wOf) (by rw [List.length_map]; exact h1) h2 _ 0 [] (Nat.zero_add _) (Nat.le_refl _)
  rw [show ((0 : Nat) : Int) = 0 from rfl] at this
  rw [this]
  unfold textsOf
  simp only [List.drop_zero, List.nil_append, List.map_map]
  rfl

theorem has_l2 (l : List ByteArray) (v : ByteArray) (hl : l.length ≤ 1048576) : ∀ (n i : Nat), i + n = l.length → laws_sdHas.l2 l v i = some ((l.drop i).any (fun y => decide (y = v)))
  | 0, i, e => by
    have hd : l.drop i = [] := List.drop_eq_nil_of_le (by omega)
    rw [laws_sdHas.l2_eq, iteB_ltI, lenL_eq, if_neg (by omega), laws_sdHas.j6_eq, hd]; rfl
  | n + 1, i, e => by
    obtain ⟨y, hy, hd⟩ := drop_at (l := l) (i := i) (by omega)
    rw [laws_sdHas.l2_eq, iteB_ltI, lenL_eq, if_pos (by omega), atL_nat, hy, bindO_some', iteB_eqS, hd, List.any_cons]
    by_cases h : y = v
    · rw [if_pos h, decide_eq_true h]; rfl
    · rw [if_neg h, addI64 (i : Int) 1 (by omega) (by omega), show (i : Int) + 1 = ((i + 1 : Nat) : Int) by omega, has_l2 l v hl n (i + 1) (by omega), decide_eq_false h]; rfl

theorem has_ok (l : List ByteArray) (v : ByteArray) (hl : l.length ≤ 1048576) : laws_sdHas (l, v) = some (l.any (fun y => decide (y = v))) := by
  rw [laws_sdHas_eq]
  exact has_l2 l v hl l.length 0 (by omega)

theorem looked_i3 (l terms : List ByteArray) (hl : l.length ≤ 1048577) (ht : terms.length ≤ 1048576) : ∀ (n i k : Nat), i + n = l.length → k ≤ i → laws_sdLooked.l3 l terms k i = some ((k + (l.drop i).countP (lookB terms) : Nat) : Int)
  | 0, i, k, e, hk => by
    have hd : l.drop i = [] := List.drop_eq_nil_of_le (by omega)
    rw [laws_sdLooked.l3_eq, iteB_ltI, lenL_eq, if_neg (by omega), laws_sdLooked.j7_eq, hd]; simp
  | n + 1, i, k, e, hk => by
    obtain ⟨y, hy, hd⟩ := drop_at (l := l) (i := i) (by omega)
    have next : ∀ k' : Nat, k' ≤ i + 1 → laws_sdLooked.j4 l terms k' i = some ((k' + (l.drop (i + 1)).countP (lookB terms) : Nat) : Int) := fun k' hk' => by
      rw [laws_sdLooked.j4_eq, addI64 (i : Int) 1 (by omega) (by omega), show (i : Int) + 1 = ((i + 1 : Nat) : Int) by omega]
      exact looked_i3 l terms hl ht n (i + 1) k' (by omega) hk'
    have hc : (l.drop i).countP (lookB terms) = (if lookB terms y = true then 1 else 0) + (l.drop (i + 1)).countP (lookB terms) := by
      rw [hd, List.countP_cons]; omega
    rw [laws_sdLooked.l3_eq, iteB_ltI, lenL_eq, if_pos (by omega), atL_nat, hy, bindO_some', bindO_some', iteB_notB, iteB_eqS, has_ok terms y ht, bindO_some', hc, show lookB terms y = (!decide (y = bs []) && terms.any (fun z => decide (z = y))) from rfl]
    by_cases h : y = bs []
    · rw [if_pos h, next k (by omega)]
      simp [h]
    · rw [if_neg h]
      cases hb : terms.any (fun z => decide (z = y)) with
      | true =>
        rw [iteB_t, addI64 (k : Int) 1 (by omega) (by omega), show (k : Int) + 1 = ((k + 1 : Nat) : Int) by omega, next (k + 1) (by omega)]
        simp only [h, decide_false, Bool.not_false, Bool.true_and, if_true]
        congr 2
        omega
      | false =>
        rw [iteB_f, next k (by omega)]
        simp only [h, decide_false, Bool.not_false, Bool.true_and, Bool.false_eq_true, if_false]
        congr 2
        omega

theorem sdLooked_ok (l terms : List ByteArray) (hl : l.length ≤ 1048577) (ht : terms.length ≤ 1048576) : laws_sdLooked (l, terms) = some ((l.countP (lookB terms) : Nat) : Int) := by
  rw [laws_sdLooked_eq]
  have := looked_i3 l terms hl ht l.length 0 0 (by omega) (Nat.le_refl _)
  rw [show ((0 : Nat) : Int) = 0 from rfl] at this
  rw [this]; simp

theorem bestF_max (c : Nat → Int) : ∀ (d best : Nat) (most : Int) (i : Nat), most = c best → (∀ j, j < i → c j ≤ most) → best < i → bestF c d best most i < i + d ∧ ∀ j, j < i + d → c j ≤ c (bestF c d best most i)
  | 0, best, most, i, h1, h2, h3 => ⟨h3, fun j hj => by rw [bestF, ← h1]; exact h2 j hj⟩
  | d + 1, best, most, i, h1, h2, h3 => by
    rw [bestF]
    split
    · rename_i hlt
      have := bestF_max c d i (c i) (i + 1) rfl (fun j hj => by
        rcases Nat.lt_succ_iff_lt_or_eq.1 hj with hj | rfl
        · have := h2 j hj; omega
        · omega) (by omega)
      rw [show i + (d + 1) = i + 1 + d by omega]; exact this
    · rename_i hlt
      have := bestF_max c d best most (i + 1) h1 (fun j hj => by
        rcases Nat.lt_succ_iff_lt_or_eq.1 hj with hj | rfl
        · exact h2 j hj
        · omega) (by omega)
      rw [show i + (d + 1) = i + 1 + d by omega]; exact this

theorem cut_size (s : ByteArray) (i j : Nat) : (cutS s (i : Int) (j : Int)).size ≤ s.size := by
  rw [← toL_len, cutS_toL, List.length_take, List.length_drop, toL_len]; omega

/-- The words of a window. -/
theorem part_terms (s : ByteArray) (hs : s.size ≤ 1048576) (p m : Nat) (hm : 1 ≤ m) (w1 w2 : W3) (h1 : (wordsP 0 (toL s))[p]? = some w1) (h2 : (wordsP 0 (toL s))[p + m - 1]? = some w2) :
    impl_Terms (cutS s (w1.2.1 : Int) (w2.2.2 : Int)) = some (((((wordsP 0 (toL s)).drop p).take m).map (·.1)).map termOf) := by
  have := cut_size s w1.2.1 w2.2.2
  rw [iTerms_ok _ (by omega), cutS_toL]
  unfold textsOf
  rw [part_words (toL s) p m hm w1 w2 h1 h2]

theorem cnt_terms (terms : List ByteArray) (l : List W3) : ((l.map (·.1)).map termOf).countP (lookB terms) = cntW terms (l.map wOf) := by
  unfold cntW
  rw [List.map_map, List.countP_map, List.countP_map]
  rfl

section
variable (s : ByteArray) (hs : s.size ≤ 1048576) (terms : List ByteArray) (ht : terms.length ≤ 1048576) (m : Nat) (hm : 1 ≤ m)

noncomputable def cAt (s : ByteArray) (terms : List ByteArray) (m i : Nat) : Int := (cntW terms ((((wordsP 0 (toL s)).map wOf).drop i).take m) : Int)

include hs ht hm in
theorem win_looked (p : Nat) (w1 w2 : W3) (h1 : (wordsP 0 (toL s))[p]? = some w1) (h2 : (wordsP 0 (toL s))[p + m - 1]? = some w2) :
    ∃ L, impl_Terms (cutS s (w1.2.1 : Int) (w2.2.2 : Int)) = some L ∧ laws_sdLooked (L, terms) = some (cAt s terms m p) := by
  refine ⟨_, part_terms s hs p m hm w1 w2 h1 h2, ?_⟩
  have hb := (words_bound s hs).1
  rw [sdLooked_ok _ terms (by simp; omega) ht, cnt_terms]
  unfold cAt
  rw [← List.map_drop, ← List.map_take]

include hs ht hm in
theorem snip_l13 (b : Nat) (x : ByteArray) (v1 v2 : W3) (hv1 : (wordsP 0 (toL s))[b]? = some v1) (hv2 : (wordsP 0 (toL s))[b + m - 1]? = some v2) (hx : x = cutS s (v1.2.1 : Int) (v2.2.2 : Int)) (hb : b + m ≤ (wordsP 0 (toL s)).length)
    (hmax : ∀ j, j < (wordsP 0 (toL s)).length - m + 1 → cAt s terms m j ≤ cAt s terms m b) : ∀ (d i : Nat) (seen : Bool), i + d = (wordsP 0 (toL s)).length - m + 1 → (seen = true ∨ i ≤ b) →
    laws_FnSnip.l13 s m x (cAt s terms m b) seen i ((wordsP 0 (toL s)).map wOf) terms = laws_FnSnip.j19 m x true
  | 0, i, seen, e, ho => by
    have hN := (words_bound s hs).1
    have hof : seen = true := ho.resolve_right (by omega)
    rw [laws_FnSnip.l13_eq, iteB_leI, addI64 (i : Int) m (by omega) (by omega), lenL_eq, List.length_map, if_neg (by omega), hof]
  | d + 1, i, seen, e, ho => by
    have hN := (words_bound s hs).1
    have e1 := List.getElem?_eq_getElem (l := wordsP 0 (toL s)) (i := i) (by omega)
    have e2 := List.getElem?_eq_getElem (l := wordsP 0 (toL s)) (i := i + m - 1) (by omega)
    have f1 : ((wordsP 0 (toL s)).map wOf)[i]? = some (wOf (wordsP 0 (toL s))[i]) := by rw [List.getElem?_map, e1]; rfl
    have f2 : ((wordsP 0 (toL s)).map wOf)[i + m - 1]? = some (wOf (wordsP 0 (toL s))[i + m - 1]) := by rw [List.getElem?_map, e2]; rfl
    have hord := ord_two (wordsP_ord (toL s) 0) (p := i) (q := i + m - 1) (by omega) e1 e2
    rw [toL_len, Nat.zero_add] at hord
    obtain ⟨L, g1, g2⟩ := win_looked s hs terms ht m hm i _ _ e1 e2
    have es : subI Go.IntKind.i64 (addI Go.IntKind.i64 (i : Int) (m : Int)) 1 = ((i + m - 1 : Nat) : Int) := by
      rw [addI64 _ _ (by omega) (by omega), subI64 _ 1 (by omega) (by omega)]; omega
    have o1 : (wOf (wordsP 0 (toL s))[i]).2.1 = ((wordsP 0 (toL s))[i].2.1 : Int) := rfl
    have o2 : (wOf (wordsP 0 (toL s))[i + m - 1]).2.2 = ((wordsP 0 (toL s))[i + m - 1].2.2 : Int) := rfl
    have hcut : ((0 : Int) ≤ ((wordsP 0 (toL s))[i].2.1 : Int) ∧ ((wordsP 0 (toL s))[i].2.1 : Int) ≤ ((wordsP 0 (toL s))[i + m - 1].2.2 : Int) ∧ ((wordsP 0 (toL s))[i + m - 1].2.2 : Int) ≤ (s.size : Int)) = True := eq_true ⟨by omega, by omega, by omega⟩
    have c0 : ((i : Int) + (m : Int) ≤ ((wordsP 0 (toL s)).length : Int)) = True := eq_true (by omega)
    have c1 : ((0 : Int) ≤ (i : Int)) = True := eq_true (by omega)
    have c2 : ((i : Int) < ((wordsP 0 (toL s)).length : Int)) = True := eq_true (by omega)
    have c3 : ((0 : Int) ≤ ((i + m - 1 : Nat) : Int)) = True := eq_true (by omega)
    have c4 : (((i + m - 1 : Nat) : Int) < ((wordsP 0 (toL s)).length : Int)) = True := eq_true (by omega)
    have c5 : (cAt s terms m b < cAt s terms m i) = False := eq_false (by have := hmax i (by omega); omega)
    have ea : addI Go.IntKind.i64 (i : Int) (m : Int) = (i : Int) + (m : Int) := addI64 _ _ (by omega) (by omega)
    have ei : addI Go.IntKind.i64 (i : Int) 1 = ((i + 1 : Nat) : Int) := by rw [addI64 _ _ (by omega) (by omega)]; omega
    rw [laws_FnSnip.l13_eq, es, ea, ei]
    simp only [iteB_leI, iteB_ltI, iteB_okCut, lenL_eq, lenS_eq, List.length_map, atL_nat, f1, f2, bindO_some', o1, o2, hcut, c0, c1, c2, c3, c4, if_true, g1, g2, c5, if_false]
    cases seen with
    | true =>
      rw [iteB_t]
      exact snip_l13 b x v1 v2 hv1 hv2 hx hb hmax d (i + 1) true (by omega) (.inl rfl)
    | false =>
      rw [iteB_f]
      refine snip_l13 b x v1 v2 hv1 hv2 hx hb hmax d (i + 1) _ (by omega) ?_
      have hib : i ≤ b := ho.resolve_left (by simp)
      by_cases hi : i = b
      · left
        subst hi
        have a1 : (wordsP 0 (toL s))[i] = v1 := Option.some.inj (e1.symm.trans hv1)
        have a2 : (wordsP 0 (toL s))[i + m - 1] = v2 := Option.some.inj (e2.symm.trans hv2)
        rw [a1, a2, hx]
        unfold eqS; exact decide_eq_true rfl
      · right; omega
end

theorem snip_law (c : List Int) (hc : ∀ b ∈ c, 0 ≤ b ∧ b ≤ 255) : laws_FnSnip c = some true := by
  rw [laws_FnSnip_eq, iteB_ltI, lenL_eq]
  by_cases htb : (1048576 : Int) < (c.length : Int)
  · rw [if_pos htb]
  · rw [if_neg htb]
    obtain ⟨s, terms, many, e1, hs, ht⟩ := drawSnip_ok c hc
    obtain ⟨v, e2, e3, hv⟩ := snips_char s (by omega) terms (by omega) many
    simp only [e1, bindO_some', e2, e3, iteB_notB, iteB_eqS, if_true]
    have hrefl : eqS v v = true := by unfold eqS; exact decide_eq_true rfl
    rw [hrefl]
    by_cases h0 : v = bs []
    · rw [if_pos h0]
    · rw [if_neg h0]
      rcases hv with hv | ⟨m, b, w1, w2, hm, hmm, hb, hbe, h60, k1, k2, hx⟩
      · exact absurd hv h0
      · have hN := (words_bound s (by omega)).1
        have fin : laws_FnSnip.j10 s m v ((wordsP 0 (toL s)).map wOf) terms = some true := by
          obtain ⟨L, g1, g2⟩ := win_looked s (by omega) terms (by omega) m hm b w1 w2 k1 k2
          have hmax := bestF_max (cAt s terms m) ((wordsP 0 (toL s)).length - m) 0 (cAt s terms m 0) 1 rfl (fun j hj => by
            rw [show j = 0 by omega]; exact Int.le_refl _) (by omega)
          have hbe' : b = bestF (cAt s terms m) ((wordsP 0 (toL s)).length - m + 1) 0 (-1) 0 := hbe
          rw [bestF, if_pos (by unfold cAt; omega)] at hbe'
          rw [← hbe'] at hmax
          have l13 := snip_l13 s (by omega) terms (by omega) m hm b v w1 w2 k1 k2 hx hb (fun j hj => hmax.2 j (by omega)) ((wordsP 0 (toL s)).length - m + 1) 0 false (by omega) (.inr (by omega))
          rw [show ((0 : Nat) : Int) = 0 from rfl] at l13
          have g1' : impl_Terms v = some L := by rw [hx]; exact g1
          rw [laws_FnSnip.j10_eq, g1', bindO_some', g2, bindO_some', l13, laws_FnSnip.j19_eq, iteB_t]
          have hvs := cut_size s w1.2.1 w2.2.2
          rw [← hx] at hvs
          have hp := congrArg List.length (part_words (toL s) b m hm w1 w2 k1 k2)
          rw [← cutS_toL, ← hx, List.length_map, List.length_map, List.length_take, List.length_drop] at hp
          rw [iWords_ok v (by omega), bindO_some', lenL_eq, List.length_map]
          congr 1
          unfold eqI
          exact decide_eq_true (by omega)
        rw [iWords_ok s (by omega), bindO_some', iteB_ltI, lenL_eq, List.length_map]
        split
        · rename_i hlt
          rw [if_pos hlt] at hmm
          rw [← hmm]; exact fin
        · rename_i hlt
          rw [if_neg hlt] at hmm
          rw [← hmm]; exact fin
end Go.E

set_option linter.unusedVariables false
namespace Go.E
open Go

theorem wordsP_few : ∀ (n : Nat) (t : List UInt8) (i : Nat), t.length ≤ n → (wordsP i t).length ≤ t.length
  | n, t, i, hn => by
    cases hi : wordsP i t with
    | nil => exact Nat.zero_le _
    | cons v r =>
      obtain ⟨g, u, h1, h2, h3, h4, h5, h6, h7, h8⟩ := wordsP_first t i v r hi
      have hl : 0 < v.1.length := List.length_pos_iff.2 h3
      have hlen : t.length = g.length + (v.1.length + u.length) := by rw [h1]; simp
      cases n with
      | zero => omega
      | succ n =>
        have := wordsP_few n u v.2.2 (by omega)
        rw [← h8] at this
        rw [List.length_cons]; omega

theorem texts_ok (l : List ByteArray) (hn : l.length ≤ 1048577) : laws_sdTexts (l, l) = some true := by
  rw [laws_sdTexts_eq, iteB_notB, iteB_eqI, if_pos rfl]
  have := loop_all (l := fun i => laws_sdTexts.l4 l l i) (n := l.length) (p := fun _ => true) (fin := true) (fun i hi => ?_) ?_ l.length 0 (by omega)
  · exact this.trans (by simp)
  · rw [laws_sdTexts.l4_eq, iteB_ltI, lenL_eq, if_pos (by omega)]
    simp only [atL_nat, List.getElem?_eq_getElem hi, bindO_some', iteB_notB, iteB_eqS, if_true]
    rw [addI64 (i : Int) 1 (by omega) (by omega)]; rfl
  · rw [laws_sdTexts.l4_eq, iteB_ltI, lenL_eq, if_neg (by omega), laws_sdTexts.j8_eq]

theorem snipAll_law (c : List Int) (hc : ∀ b ∈ c, 0 ≤ b ∧ b ≤ 255) : laws_FnSnipAll c = some true := by
  rw [laws_FnSnipAll_eq, iteB_ltI, lenL_eq]
  by_cases htb : (1048576 : Int) < (c.length : Int)
  · rw [if_pos htb]
  · rw [if_neg htb]
    obtain ⟨s, terms, many, e1, hs, ht⟩ := drawSnip_ok c hc
    obtain ⟨v, e2, e3, hv⟩ := snips_char s (by omega) terms (by omega) 60
    simp only [e1, bindO_some', e2, e3, iteB_notB, iteB_eqS, if_true]
    have hrefl : eqS v v = true := by unfold eqS; exact decide_eq_true rfl
    rw [hrefl]
    by_cases h0 : v = bs []
    · rw [if_pos h0]
    · rw [if_neg h0]
      rcases hv with hv | ⟨m, b, w1, w2, hm, hmm, hb, hbe, h60, k1, k2, hx⟩
      · exact absurd hv h0
      · have hN := wordsP_few _ (toL s) 0 (Nat.le_refl _)
        rw [toL_len] at hN
        have hmN : m = (wordsP 0 (toL s)).length := by
          split at hmm <;> omega
        obtain rfl : b = 0 := by omega
        rw [Nat.zero_add, hmN] at k2
        have f1 : ((wordsP 0 (toL s)).map wOf)[0]? = some (wOf w1) := by rw [List.getElem?_map, k1]; rfl
        have f2 : ((wordsP 0 (toL s)).map wOf)[(wordsP 0 (toL s)).length - 1]? = some (wOf w2) := by rw [List.getElem?_map, k2]; rfl
        have hord := ord_two (wordsP_ord (toL s) 0) (p := 0) (q := (wordsP 0 (toL s)).length - 1) (by omega) k1 k2
        rw [toL_len, Nat.zero_add] at hord
        have o1 : (wOf w1).2.1 = (w1.2.1 : Int) := rfl
        have o2 : (wOf w2).2.2 = (w2.2.2 : Int) := rfl
        have es : subI Go.IntKind.i64 ((wordsP 0 (toL s)).length : Int) 1 = (((wordsP 0 (toL s)).length - 1 : Nat) : Int) := by
          rw [subI64 _ 1 (by omega) (by omega)]; omega
        have c1 : ((0 : Int) ≤ 0) = True := eq_true (by omega)
        have c2 : ((0 : Int) < ((wordsP 0 (toL s)).length : Int)) = True := eq_true (by omega)
        have c3 : ((0 : Int) ≤ (((wordsP 0 (toL s)).length - 1 : Nat) : Int)) = True := eq_true (by omega)
        have c4 : ((((wordsP 0 (toL s)).length - 1 : Nat) : Int) < ((wordsP 0 (toL s)).length : Int)) = True := eq_true (by omega)
        have hcut : ((0 : Int) ≤ (w1.2.1 : Int) ∧ (w1.2.1 : Int) ≤ (w2.2.2 : Int) ∧ (w2.2.2 : Int) ≤ (s.size : Int)) = True := eq_true ⟨by omega, by omega, by omega⟩
        have at0 : atL ((wordsP 0 (toL s)).map wOf) 0 = some (wOf w1) := by
          have := atL_nat ((wordsP 0 (toL s)).map wOf) 0
          rw [show ((0 : Nat) : Int) = 0 from rfl] at this
          rw [this, f1]
        have tv : impl_Terms v = some ((textsOf (toL s)).map termOf) := by
          rw [hx, part_terms s (by omega) 0 (wordsP 0 (toL s)).length (by omega) w1 w2 k1 (by rw [Nat.zero_add]; exact k2)]
          unfold textsOf
          rw [List.drop_zero, List.take_length]
        rw [iWords_ok s (by omega), bindO_some']
        simp only [iteB_leI, iteB_ltI, iteB_okCut, lenL_eq, lenS_eq, List.length_map, es, at0, atL_nat, f2, bindO_some', o1, o2, hcut, c1, c2, c3, c4, if_true, ← hx, tv]
        rw [iTerms_ok s (by omega), bindO_some', texts_ok _ (by unfold textsOf; simp; omega), bindO_some']

theorem snip_bytes {c : List Int} (h : Good' (.sl (.int .u8)) c) : ∀ b ∈ c, 0 ≤ b ∧ b ≤ 255 := fun b hb => bounds_u8 (h.2 b hb)
theorem snip' (c : List Int) (hg : Good' (.sl (.int .u8)) c) : laws_FnSnip c = some true := snip_law c (snip_bytes hg)
theorem snipAll' (c : List Int) (hg : Good' (.sl (.int .u8)) c) : laws_FnSnipAll c = some true := snipAll_law c (snip_bytes hg)
end Go.E


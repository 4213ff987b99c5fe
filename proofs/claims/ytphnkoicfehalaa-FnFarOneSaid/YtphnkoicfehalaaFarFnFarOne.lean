/- Both texts of the distance, the program's and the reference's, come to the distance of the two lists of bytes. -/
import Derived.Test.YtphnkoicfehalaaPFnFarOnex
import Derived.Test.YtphnkoicfehalaaEv
import Derived.Test.YtphnkoicfehalaaLev
namespace Go.Proofs.Ytphnkoicfehalaa.DFnFarOne
open Go.RowKit Go.Proofs.Ytphnkoicfehalaa.PFnFarOne Go.Proofs.YtphnkoicfehalaaW.PrintWords Go.Proofs.YtphnkoicfehalaaW.PrintLast Go.Proofs.Ytphnkoicfehalaa.T Go.Proofs.Ytphnkoicfehalaa.Lv
set_option linter.unusedVariables false
set_option linter.unusedSimpArgs false

/-! ### what may be in a cell -/
/-- A byte that can be seen, or a blank. -/
def vis (b : UInt8) : Bool := decide (32 ≤ b.toNat ∧ b.toNat ≤ 126)
/-- A text. -/
def txt (s : ByteArray) : Bool := (bs s).all vis && decide ((s.size : Int) ≤ 60)
theorem vis_bt (s : ByteArray) (i : Nat) (h : i < (bs s).length) : decide (32 ≤ bt s (i : Int) ∧ bt s (i : Int) ≤ 126) = vis ((bs s)[i]) := by
  rw [bt_bs s i h]; unfold vis
  exact decide_eq_decide.2 (by omega)
theorem within_eq (a b c : Int) : impl_within.f a b c = some (decide (b ≤ a ∧ a ≤ c)) := by
  unfold impl_within.f
  by_cases h : a ≥ b
  · rw [if_pos h]; congr 1; exact decide_eq_decide.2 (by omega)
  · rw [if_neg h]; congr 1; exact (decide_eq_false (by omega)).symm
theorem l1In_eq (a b c : Int) : spec_l1In.f a b c = some (decide (b ≤ a ∧ a ≤ c)) := by
  unfold spec_l1In.f
  by_cases h : a ≥ b
  · rw [if_pos h]; congr 1; exact decide_eq_decide.2 (by omega)
  · rw [if_neg h]; congr 1; exact (decide_eq_false (by omega)).symm
theorem plain_loop (s : ByteArray) (m : Int) (hs : s.size ≤ 1000000000000) : ∀ (d i : Nat), s.size - i = d → i ≤ s.size → Ev (fun k => impl_plain.l0 k s m (s.size : Int) (i : Int)) (((bs s).drop i).all vis && decide ((s.size : Int) ≤ m)) := by
  intro d
  induction d with
  | zero =>
    intro i h1 h2
    refine ev_succ ?_
    simp only [impl_plain.l0]
    refine ev_neg (by omega) ?_
    rw [List.drop_of_length_le (by rw [bs_length]; omega)]
    exact ev_eq (by simp)
  | succ d ih =>
    intro i h1 h2
    have hi : i < (bs s).length := by rw [bs_length]; omega
    have hr := bt_range s (i : Int)
    refine ev_succ ?_
    simp only [impl_plain.l0]
    refine ev_pos (by omega) (ev_pos (by omega) (ev_pos (by omega) ?_))
    rw [w64' (bt s (i : Int)) (by omega) (by omega)]
    refine ev_bind0 (within_eq _ _ _) ?_
    rw [vis_bt s i hi, List.drop_eq_getElem_cons hi, List.all_cons]
    cases hv : vis (bs s)[i] with
    | true =>
      refine ev_pos rfl ?_
      rw [w64' _ (by omega) (by omega), Bool.true_and]
      exact ih (i + 1) (by omega) (by omega)
    | false => exact ev_neg (by decide) (ev_eq (by simp))
theorem textOk_ev (s : ByteArray) (hs : s.size ≤ 1000000000000) : Ev (fun k => impl_textOk.f k s) (txt s) := by
  unfold impl_textOk.f impl_plain.f
  have := plain_loop s 60 hs s.size 0 (by omega) (by omega)
  rw [List.drop_zero] at this
  exact ev_bind this ev_some
theorem l2Text_loop (s : ByteArray) (hs : s.size ≤ 1000000000000) : ∀ (d i : Nat), s.size - i = d → i ≤ s.size → Ev (fun k => spec_l2Text.l0 k s (i : Int)) (((bs s).drop i).all vis && decide ((s.size : Int) ≤ 60)) := by
  intro d
  induction d with
  | zero =>
    intro i h1 h2
    refine ev_succ ?_
    simp only [spec_l2Text.l0]
    refine ev_neg (by omega) ?_
    rw [List.drop_of_length_le (by rw [bs_length]; omega)]
    exact ev_eq (by simp)
  | succ d ih =>
    intro i h1 h2
    have hi : i < (bs s).length := by rw [bs_length]; omega
    have hr := bt_range s (i : Int)
    refine ev_succ ?_
    simp only [spec_l2Text.l0]
    refine ev_pos (by omega) (ev_pos (by omega) ?_)
    rw [w64' (bt s (i : Int)) (by omega) (by omega)]
    refine ev_bind0 (l1In_eq _ _ _) ?_
    rw [vis_bt s i hi, List.drop_eq_getElem_cons hi, List.all_cons]
    cases hv : vis (bs s)[i] with
    | true =>
      refine ev_pos rfl ?_
      rw [w64' _ (by omega) (by omega), Bool.true_and]
      exact ih (i + 1) (by omega) (by omega)
    | false => exact ev_neg (by decide) (ev_eq (by simp))
theorem l2Text_ev (s : ByteArray) (hs : s.size ≤ 1000000000000) : Ev (fun k => spec_l2Text.f k s) (txt s) := by
  unfold spec_l2Text.f
  have := l2Text_loop s hs s.size 0 (by omega) (by omega)
  rw [List.drop_zero] at this
  exact this
theorem txt_size {s : ByteArray} (h : txt s = true) : s.size ≤ 60 := by
  unfold txt at h
  simp only [Bool.and_eq_true, decide_eq_true_eq] at h
  omega

/-! ### the table of distances of beginnings -/
section
variable (A B : List UInt8)
/-- The distance of the first i bytes of one and the first j of the other. -/
def dist (i j : Nat) : Nat := lev (A.take i).reverse (B.take j).reverse
theorem take_rev {A : List UInt8} {i : Nat} (h : i < A.length) : (A.take (i + 1)).reverse = A[i] :: (A.take i).reverse := by
  rw [List.take_succ_eq_append_getElem h]; simp
theorem dist_left (j : Nat) (h : j ≤ B.length) : dist A B 0 j = j := by
  unfold dist; simp [lev_nil_left]; omega
theorem dist_right (i : Nat) (h : i ≤ A.length) : dist A B i 0 = i := by
  unfold dist; simp [lev_nil_right]; omega
theorem dist_le (i j : Nat) : dist A B i j ≤ A.length + B.length := by
  have := lev_max (A.take i).reverse (B.take j).reverse
  simp only [List.length_reverse, List.length_take] at this
  unfold dist; omega
theorem dist_same (i j : Nat) (hi : i < A.length) (hj : j < B.length) (h : A[i] = B[j]) : dist A B (i + 1) (j + 1) = dist A B i j := by
  unfold dist; rw [take_rev hi, take_rev hj, h, lev_same]
theorem dist_other (i j : Nat) (hi : i < A.length) (hj : j < B.length) (h : A[i] ≠ B[j]) : dist A B (i + 1) (j + 1) = 1 + min (dist A B i j) (min (dist A B (i + 1) j) (dist A B i (j + 1))) := by
  unfold dist; rw [take_rev hi, take_rev hj, lev_other h]
theorem dist_least (i j : Nat) (hi : i < A.length) (hj : j < B.length) : dist A B (i + 1) (j + 1) = min (dist A B i (j + 1) + 1) (min (dist A B (i + 1) j + 1) (if A[i] = B[j] then dist A B i j else dist A B i j + 1)) := by
  unfold dist; rw [take_rev hi, take_rev hj, lev_least]
theorem dist_all : dist A B A.length B.length = lev A B := by unfold dist; simp [lev_reverse]
/-- A row of it, as far as column j. -/
def upto (i j : Nat) : List Int := (List.range j).map fun t => (dist A B i t : Int)
/-- The row as it is filled: zeros behind column j. -/
def part (i j : Nat) : List Int := upto A B i j ++ List.replicate (B.length + 1 - j) 0
theorem upto_length (i j : Nat) : (upto A B i j).length = j := by simp [upto]
theorem part_length (i j : Nat) (h : j ≤ B.length + 1) : (part A B i j).length = B.length + 1 := by simp [part, upto_length]; omega
theorem upto_succ (i j : Nat) : upto A B i (j + 1) = upto A B i j ++ [(dist A B i j : Int)] := by simp [upto, List.range_succ]
theorem rd_upto (i j t : Nat) (h : t < j) : rd (upto A B i j) (t : Int) = (dist A B i t : Int) := by
  rw [rd_lt _ _ (by rw [upto_length]; exact h)]; simp [upto]
theorem rd_part (i j t : Nat) (h : t < j) : rd (part A B i j) (t : Int) = (dist A B i t : Int) := by
  rw [← rd_upto A B i j t h]; unfold part
  rw [rd_nat, rd_nat, List.getD_eq_getElem?_getD, List.getD_eq_getElem?_getD, List.getElem?_append_left (by rw [upto_length]; exact h)]
theorem part_full (i : Nat) : part A B i (B.length + 1) = upto A B i (B.length + 1) := by simp [part]
theorem part_zero (i : Nat) : List.replicate (B.length + 1) (0 : Int) = part A B i 0 := by simp [part, upto]
theorem part_set (i j : Nat) (h : j ≤ B.length) : (part A B i j).set j (dist A B i j : Int) = part A B i (j + 1) := by
  unfold part
  rw [upto_succ, List.set_append_right _ _ (by rw [upto_length]; exact Nat.le_refl _), upto_length, Nat.sub_self, show B.length + 1 - j = (B.length - j) + 1 from by omega, List.replicate_succ, List.set_cons_zero, List.append_assoc, show B.length + 1 - (j + 1) = B.length - j from by omega]
  rfl
theorem rd_set_ne (l : List Int) (i j : Nat) (v : Int) (h : i ≠ j) : rd (l.set i v) (j : Int) = rd l (j : Int) := by
  rw [rd_nat, rd_nat, List.getD_eq_getElem?_getD, List.getD_eq_getElem?_getD, List.getElem?_set_ne h]
end

theorem mn_min (a b : Nat) : mn (a : Int) (b : Int) = ((min a b : Nat) : Int) := by unfold mn; split <;> omega
theorem least_eq (a b c : Int) : spec_l9Least.f a b c = some (min a (min b c)) := by
  unfold spec_l9Least.f
  by_cases h1 : b < a
  · rw [if_pos h1]
    by_cases h2 : c < b
    · rw [if_pos h2]; congr 1; omega
    · rw [if_neg h2]; congr 1; omega
  · rw [if_neg h1]
    by_cases h2 : c < a
    · rw [if_pos h2]; congr 1; omega
    · rw [if_neg h2]; congr 1; omega

/-! ### the program's distance -/
section
variable (a b : ByteArray) (ha : a.size ≤ 60) (hb : b.size ≤ 60)
include ha hb
theorem far_l2 (i : Nat) (hi : i < a.size) (r : Int) (hn : Ev (fun k => impl_Far.l1 k a b (upto (bs a) (bs b) (i + 1) (b.size + 1)) ((i + 2 : Nat) : Int)) r) :
    ∀ (d j : Nat), b.size + 1 - j = d → 1 ≤ j → j ≤ b.size + 1 → Ev (fun k => impl_Far.l2 k a b (upto (bs a) (bs b) i (b.size + 1)) ((i + 1 : Nat) : Int) (part (bs a) (bs b) (i + 1) j) (j : Int)) r := by
  have la := bs_length a
  have lb := bs_length b
  intro d
  induction d with
  | zero =>
    intro j h1 h2 h3
    obtain rfl : j = b.size + 1 := by omega
    refine ev_succ ?_
    simp only [impl_Far.l2]
    refine ev_neg (by omega) ?_
    rw [w64' _ (by omega) (by omega), ← lb, part_full, lb, show (((i + 1 : Nat) : Int) + 1) = ((i + 2 : Nat) : Int) from by omega]
    exact hn
  | succ d ih =>
    intro j h1 h2 h3
    obtain ⟨t, rfl⟩ : ∃ t, j = t + 1 := ⟨j - 1, by omega⟩
    have ht : t < (bs b).length := by omega
    have hia : i < (bs a).length := by omega
    have e1 : wrap64 (((t + 1 : Nat) : Int) - 1) = (t : Int) := by rw [w64' _ (by omega) (by omega)]; omega
    have e2 : wrap64 (((i + 1 : Nat) : Int) - 1) = (i : Int) := by rw [w64' _ (by omega) (by omega)]; omega
    have lu := upto_length (bs a) (bs b) i (b.size + 1)
    have lp := part_length (bs a) (bs b) (i + 1) (t + 1) (by omega)
    have n1 := dist_le (bs a) (bs b) i t
    have n2 := dist_le (bs a) (bs b) i (t + 1)
    have n3 := dist_le (bs a) (bs b) (i + 1) t
    refine ev_succ ?_
    simp only [impl_Far.l2, e1, e2, Option.bind_some, Int.toNat_natCast]
    rw [rd_upto (bs a) (bs b) i (b.size + 1) t (by omega), rd_upto (bs a) (bs b) i (b.size + 1) (t + 1) (by omega), bt_bs a i hia, bt_bs b t ht, w64' (((t + 1 : Nat) : Int) + 1) (by omega) (by omega)]
    refine ev_pos (by omega) (ev_pos (by omega) (ev_pos (by omega) (ev_pos (by omega) (ev_pos (by omega) (ev_pos (by omega) (ev_pos (by omega) (ev_pos (by omega) ?_)))))))
    by_cases hc : (bs a)[i] = (bs b)[t]
    · refine ev_pos (by rw [hc]) ?_
      have hs := part_set (bs a) (bs b) (i + 1) (t + 1) (by omega)
      rw [dist_same _ _ _ _ hia ht hc] at hs
      rw [hs]
      exact ih (t + 2) (by omega) (by omega) (by omega)
    · have hc' : ¬ ((bs a)[i].toNat : Int) = ((bs b)[t].toNat : Int) := fun h => hc (UInt8.toNat_inj.1 (by omega))
      refine ev_neg hc' (ev_pos (by omega) (ev_pos (by omega) ?_))
      rw [rd_set_ne _ _ _ _ (by omega), rd_part (bs a) (bs b) (i + 1) (t + 1) t (by omega), mn_min, mn_min, List.set_set]
      have hs := part_set (bs a) (bs b) (i + 1) (t + 1) (by omega)
      have hd := dist_other _ _ _ _ hia ht hc
      rw [w64' _ (by omega) (by omega), show (1 : Int) + ((min (min (dist (bs a) (bs b) i t) (dist (bs a) (bs b) i (t + 1))) (dist (bs a) (bs b) (i + 1) t) : Nat) : Int) = (dist (bs a) (bs b) (i + 1) (t + 1) : Int) from by rw [hd]; omega, hs]
      exact ih (t + 2) (by omega) (by omega) (by omega)
theorem far_l1 : ∀ (d i : Nat), a.size - i = d → i ≤ a.size → Ev (fun k => impl_Far.l1 k a b (upto (bs a) (bs b) i (b.size + 1)) ((i + 1 : Nat) : Int)) (lev (bs a) (bs b) : Int) := by
  have la := bs_length a
  have lb := bs_length b
  intro d
  induction d with
  | zero =>
    intro i h1 h2
    obtain rfl : i = a.size := by omega
    have lu := upto_length (bs a) (bs b) a.size (b.size + 1)
    refine ev_succ ?_
    simp only [impl_Far.l1]
    refine ev_neg (by omega) (ev_pos (by omega) (ev_pos (by omega) ?_))
    rw [rd_upto (bs a) (bs b) a.size (b.size + 1) b.size (by omega), ← dist_all, la, lb]
    exact ev_some
  | succ d ih =>
    intro i h1 h2
    have e1 : wrap64 ((b.size : Int) + 1) = ((b.size + 1 : Nat) : Int) := by rw [w64' _ (by omega) (by omega)]; omega
    refine ev_succ ?_
    simp only [impl_Far.l1, e1, Option.bind_some, Int.toNat_natCast]
    have lz : (List.replicate (b.size + 1) (0 : Int)).length = b.size + 1 := List.length_replicate
    refine ev_pos (by omega) (ev_pos (by omega) (ev_pos (by omega) (ev_pos (by omega) ?_)))
    have hz : (List.replicate (b.size + 1) (0 : Int)).set (0 : Int).toNat ((i + 1 : Nat) : Int) = part (bs a) (bs b) (i + 1) 1 := by
      have := part_set (bs a) (bs b) (i + 1) 0 (by omega)
      rw [dist_right _ _ _ (by omega), ← part_zero, lb] at this
      exact this
    rw [hz]
    exact far_l2 a b ha hb i (by omega) _ (ih (i + 1) (by omega) (by omega)) _ 1 rfl (by omega) (by omega)
theorem far_l0 : ∀ (d j : Nat), b.size + 1 - j = d → j ≤ b.size + 1 → Ev (fun k => impl_Far.l0 k a b (part (bs a) (bs b) 0 j) ((b.size + 1 : Nat) : Int) (j : Int)) (lev (bs a) (bs b) : Int) := by
  have la := bs_length a
  have lb := bs_length b
  intro d
  induction d with
  | zero =>
    intro j h1 h2
    obtain rfl : j = b.size + 1 := by omega
    refine ev_succ ?_
    simp only [impl_Far.l0]
    refine ev_neg (by omega) ?_
    rw [← lb, part_full, lb]
    exact far_l1 a b ha hb _ 0 rfl (by omega)
  | succ d ih =>
    intro j h1 h2
    have lp := part_length (bs a) (bs b) 0 j (by omega)
    refine ev_succ ?_
    simp only [impl_Far.l0, Int.toNat_natCast]
    refine ev_pos (by omega) (ev_pos (by omega) (ev_pos (by omega) ?_))
    have hs := part_set (bs a) (bs b) 0 j (by omega)
    rw [dist_left _ _ _ (by omega)] at hs
    rw [hs, w64' _ (by omega) (by omega)]
    exact ih (j + 1) (by omega) (by omega)
end
/-- What the distance of two texts is, -1 if one may not be in a cell. -/
def far (a b : ByteArray) : Int := if txt a && txt b then (lev (bs a) (bs b) : Int) else -1
theorem far_j0 (a b : ByteArray) (ha : a.size ≤ 60) (hb : b.size ≤ 60) : Ev (fun k => impl_Far.j0 k a b false) (lev (bs a) (bs b) : Int) := by
  have lb := bs_length b
  have e1 : wrap64 ((b.size : Int) + 1) = ((b.size + 1 : Nat) : Int) := by rw [w64' _ (by omega) (by omega)]; omega
  refine ev_succ ?_
  simp only [impl_Far.j0, e1, Option.bind_some, Int.toNat_natCast, List.length_replicate]
  refine ev_neg (by decide) (ev_pos (by omega) (ev_pos (by omega) ?_))
  have hz := part_zero (bs a) (bs b) 0
  rw [lb] at hz
  rw [hz]
  exact far_l0 a b ha hb _ 0 rfl (by omega)
theorem far_ev (a b : ByteArray) (ha : a.size ≤ 1000000000000) (hb : b.size ≤ 1000000000000) : Ev (fun k => impl_Far.f k a b) (far a b) := by
  unfold impl_Far.f far
  refine ev_bind (textOk_ev a ha) ?_
  have hno : Ev (fun k => impl_Far.j0 k a b true) (-1 : Int) := by
    refine ev_succ ?_
    simp only [impl_Far.j0]
    exact ev_pos (by trivial) ev_some
  cases h1 : txt a with
  | false =>
    refine ev_neg (by decide) ?_
    exact ev_to hno (by simp)
  | true =>
    refine ev_pos rfl (ev_bind (textOk_ev b hb) ?_)
    cases h2 : txt b with
    | false => exact ev_to hno (by simp)
    | true => exact ev_to (far_j0 a b (txt_size h1) (txt_size h2)) (by simp)

/-! ### the reference's distance -/
section
variable (a b : ByteArray) (ha : a.size ≤ 60) (hb : b.size ≤ 60)
include ha hb
theorem sfar_l2 (i : Nat) (hi : i < a.size) (r : Int) (hn : Ev (fun k => spec_Far.l1 k a b (upto (bs a) (bs b) (i + 1) (b.size + 1)) ((i + 2 : Nat) : Int)) r) :
    ∀ (d j : Nat), b.size + 1 - j = d → 1 ≤ j → j ≤ b.size + 1 → Ev (fun k => spec_Far.l2 k a b (upto (bs a) (bs b) i (b.size + 1)) ((i + 1 : Nat) : Int) (upto (bs a) (bs b) (i + 1) j) (j : Int)) r := by
  have la := bs_length a
  have lb := bs_length b
  intro d
  induction d with
  | zero =>
    intro j h1 h2 h3
    obtain rfl : j = b.size + 1 := by omega
    refine ev_succ ?_
    simp only [spec_Far.l2]
    refine ev_neg (by omega) ?_
    rw [w64' _ (by omega) (by omega), show (((i + 1 : Nat) : Int) + 1) = ((i + 2 : Nat) : Int) from by omega]
    exact hn
  | succ d ih =>
    intro j h1 h2 h3
    obtain ⟨t, rfl⟩ : ∃ t, j = t + 1 := ⟨j - 1, by omega⟩
    have ht : t < (bs b).length := by omega
    have hia : i < (bs a).length := by omega
    have e1 : wrap64 (((t + 1 : Nat) : Int) - 1) = (t : Int) := by rw [w64' _ (by omega) (by omega)]; omega
    have e2 : wrap64 (((i + 1 : Nat) : Int) - 1) = (i : Int) := by rw [w64' _ (by omega) (by omega)]; omega
    have lu := upto_length (bs a) (bs b) i (b.size + 1)
    have lp := upto_length (bs a) (bs b) (i + 1) (t + 1)
    have n1 := dist_le (bs a) (bs b) i t
    have n2 := dist_le (bs a) (bs b) i (t + 1)
    have n3 := dist_le (bs a) (bs b) (i + 1) t
    have hd := dist_least _ _ _ _ hia ht
    have hs := upto_succ (bs a) (bs b) (i + 1) (t + 1)
    refine ev_succ ?_
    simp only [spec_Far.l2, e1, e2]
    rw [rd_upto (bs a) (bs b) i (b.size + 1) t (by omega), rd_upto (bs a) (bs b) i (b.size + 1) (t + 1) (by omega), rd_upto (bs a) (bs b) (i + 1) (t + 1) t (by omega), bt_bs a i hia, bt_bs b t ht, w64' (((t + 1 : Nat) : Int) + 1) (by omega) (by omega), w64' ((dist (bs a) (bs b) i (t + 1) : Int) + 1) (by omega) (by omega), w64' ((dist (bs a) (bs b) (i + 1) t : Int) + 1) (by omega) (by omega), w64' ((dist (bs a) (bs b) i t : Int) + 1) (by omega) (by omega)]
    refine ev_pos (by omega) (ev_pos (by omega) (ev_pos (by omega) (ev_pos (by omega) (ev_pos (by omega) (ev_pos (by omega) ?_)))))
    by_cases hc : (bs a)[i] = (bs b)[t]
    · rw [if_pos hc] at hd
      refine ev_pos (by rw [hc]) (ev_pos (by omega) (ev_pos (by omega) (ev_pos (by omega) (ev_bind0 (least_eq _ _ _) (ev_pos (by omega) ?_)))))
      rw [show min ((dist (bs a) (bs b) i (t + 1) : Int) + 1) (min ((dist (bs a) (bs b) (i + 1) t : Int) + 1) (dist (bs a) (bs b) i t : Int)) = (dist (bs a) (bs b) (i + 1) (t + 1) : Int) from by rw [hd]; omega, ← hs]
      exact ih (t + 2) (by omega) (by omega) (by omega)
    · have hc' : ¬ ((bs a)[i].toNat : Int) = ((bs b)[t].toNat : Int) := fun h => hc (UInt8.toNat_inj.1 (by omega))
      rw [if_neg hc] at hd
      refine ev_neg hc' (ev_pos (by omega) (ev_pos (by omega) (ev_pos (by omega) (ev_bind0 (least_eq _ _ _) (ev_pos (by omega) ?_)))))
      rw [show min ((dist (bs a) (bs b) i (t + 1) : Int) + 1) (min ((dist (bs a) (bs b) (i + 1) t : Int) + 1) ((dist (bs a) (bs b) i t : Int) + 1)) = (dist (bs a) (bs b) (i + 1) (t + 1) : Int) from by rw [hd]; omega, ← hs]
      exact ih (t + 2) (by omega) (by omega) (by omega)
theorem sfar_l1 : ∀ (d i : Nat), a.size - i = d → i ≤ a.size → Ev (fun k => spec_Far.l1 k a b (upto (bs a) (bs b) i (b.size + 1)) ((i + 1 : Nat) : Int)) (lev (bs a) (bs b) : Int) := by
  have la := bs_length a
  have lb := bs_length b
  intro d
  induction d with
  | zero =>
    intro i h1 h2
    obtain rfl : i = a.size := by omega
    have lu := upto_length (bs a) (bs b) a.size (b.size + 1)
    refine ev_succ ?_
    simp only [spec_Far.l1]
    refine ev_neg (by omega) (ev_pos (by omega) (ev_pos (by omega) ?_))
    rw [rd_upto (bs a) (bs b) a.size (b.size + 1) b.size (by omega), ← dist_all, la, lb]
    exact ev_some
  | succ d ih =>
    intro i h1 h2
    refine ev_succ ?_
    simp only [spec_Far.l1]
    refine ev_pos (by omega) ?_
    have hz : ([((i + 1 : Nat) : Int)] : List Int) = upto (bs a) (bs b) (i + 1) 1 := by
      rw [upto_succ, dist_right _ _ _ (by omega)]; rfl
    rw [hz]
    exact sfar_l2 a b ha hb i (by omega) _ (ih (i + 1) (by omega) (by omega)) _ 1 rfl (by omega) (by omega)
theorem sfar_l0 : ∀ (d j : Nat), b.size + 1 - j = d → j ≤ b.size + 1 → Ev (fun k => spec_Far.l0 k a b (upto (bs a) (bs b) 0 j) (j : Int)) (lev (bs a) (bs b) : Int) := by
  have la := bs_length a
  have lb := bs_length b
  intro d
  induction d with
  | zero =>
    intro j h1 h2
    obtain rfl : j = b.size + 1 := by omega
    refine ev_succ ?_
    simp only [spec_Far.l0]
    refine ev_neg (by omega) ?_
    exact sfar_l1 a b ha hb _ 0 rfl (by omega)
  | succ d ih =>
    intro j h1 h2
    have lp := upto_length (bs a) (bs b) 0 j
    refine ev_succ ?_
    simp only [spec_Far.l0]
    refine ev_pos (by omega) (ev_pos (by omega) ?_)
    have hs := upto_succ (bs a) (bs b) 0 j
    rw [dist_left _ _ _ (by omega)] at hs
    rw [← hs, w64' _ (by omega) (by omega)]
    exact ih (j + 1) (by omega) (by omega)
end
theorem sfar_ev (a b : ByteArray) (ha : a.size ≤ 1000000000000) (hb : b.size ≤ 1000000000000) : Ev (fun k => spec_Far.f k a b) (far a b) := by
  unfold spec_Far.f far
  refine ev_bind (l2Text_ev a ha) ?_
  have hno : Ev (fun k => spec_Far.j0 k a b true) (-1 : Int) := by
    refine ev_succ ?_
    simp only [spec_Far.j0]
    exact ev_pos (by trivial) ev_some
  cases h1 : txt a with
  | false =>
    refine ev_neg (by decide) ?_
    exact ev_to hno (by simp)
  | true =>
    refine ev_pos rfl (ev_bind (l2Text_ev b hb) ?_)
    cases h2 : txt b with
    | false => exact ev_to hno (by simp)
    | true =>
      refine ev_to ?_ (by simp : (lev (bs a) (bs b) : Int) = _)
      refine ev_succ ?_
      simp only [spec_Far.j0]
      exact ev_neg (by decide) (sfar_l0 a b (txt_size h1) (txt_size h2) _ 0 rfl (by omega))
theorem far_cases (a b : ByteArray) : (txt a = true ∧ txt b = true ∧ far a b = (lev (bs a) (bs b) : Int)) ∨ ((txt a = false ∨ txt b = false) ∧ far a b = -1) := by
  unfold far
  cases txt a <;> cases txt b <;> simp
end Go.Proofs.Ytphnkoicfehalaa.DFnFarOne

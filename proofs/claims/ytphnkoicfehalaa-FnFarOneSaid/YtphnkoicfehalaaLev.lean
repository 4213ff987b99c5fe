/- The distance of two lists, by ways from one to the other. -/
namespace Go.Proofs.Ytphnkoicfehalaa.Lv
set_option linter.unusedSectionVars false
variable {α : Type} [DecidableEq α]

/-- The distance of two lists: how many are put in, taken out or turned. -/
def lev : List α → List α → Nat
  | [], b => b.length
  | x :: a, [] => (x :: a).length
  | x :: a, y :: b => if x = y then lev a b else 1 + min (lev a b) (min (lev (x :: a) b) (lev a (y :: b)))
termination_by a b => a.length + b.length

/-- A way from one list to another one, in so many steps. -/
inductive Ed : List α → List α → Nat → Prop
  | nil : Ed [] [] 0
  | keep (x : α) {a b n} : Ed a b n → Ed (x :: a) (x :: b) n
  | turn (x y : α) {a b n} : Ed a b n → Ed (x :: a) (y :: b) (n + 1)
  | ins (y : α) {a b n} : Ed a b n → Ed a (y :: b) (n + 1)
  | del (x : α) {a b n} : Ed a b n → Ed (x :: a) b (n + 1)

theorem Ed.refl : ∀ a : List α, Ed a a 0
  | [] => .nil
  | x :: a => .keep x (Ed.refl a)
theorem Ed.symm {a b : List α} {n : Nat} (h : Ed a b n) : Ed b a n := by
  induction h with
  | nil => exact .nil
  | keep x _ ih => exact .keep x ih
  | turn x y _ ih => exact .turn y x ih
  | ins y _ ih => exact .del y ih
  | del x _ ih => exact .ins x ih
theorem Ed.of_nil : ∀ b : List α, Ed [] b b.length
  | [] => .nil
  | y :: b => .ins y (Ed.of_nil b)
theorem Ed.to_nil (a : List α) : Ed a [] a.length := (Ed.of_nil a).symm
theorem Ed.lev : ∀ a b : List α, Ed a b (lev a b)
  | [], b => by rw [Go.Proofs.Ytphnkoicfehalaa.Lv.lev]; exact Ed.of_nil b
  | x :: a, [] => by rw [Go.Proofs.Ytphnkoicfehalaa.Lv.lev]; exact Ed.to_nil (x :: a)
  | x :: a, y :: b => by
    have h1 := Ed.lev a b
    have h2 := Ed.lev (x :: a) b
    have h3 := Ed.lev a (y :: b)
    rw [Go.Proofs.Ytphnkoicfehalaa.Lv.lev]
    split
    · next h => subst h; exact .keep x h1
    · rcases (by omega : min (Go.Proofs.Ytphnkoicfehalaa.Lv.lev a b) (min (Go.Proofs.Ytphnkoicfehalaa.Lv.lev (x :: a) b) (Go.Proofs.Ytphnkoicfehalaa.Lv.lev a (y :: b))) = Go.Proofs.Ytphnkoicfehalaa.Lv.lev a b ∨ min (Go.Proofs.Ytphnkoicfehalaa.Lv.lev a b) (min (Go.Proofs.Ytphnkoicfehalaa.Lv.lev (x :: a) b) (Go.Proofs.Ytphnkoicfehalaa.Lv.lev a (y :: b))) = Go.Proofs.Ytphnkoicfehalaa.Lv.lev (x :: a) b ∨ min (Go.Proofs.Ytphnkoicfehalaa.Lv.lev a b) (min (Go.Proofs.Ytphnkoicfehalaa.Lv.lev (x :: a) b) (Go.Proofs.Ytphnkoicfehalaa.Lv.lev a (y :: b))) = Go.Proofs.Ytphnkoicfehalaa.Lv.lev a (y :: b)) with e | e | e
      · rw [e, Nat.add_comm]; exact .turn x y h1
      · rw [e, Nat.add_comm]; exact .ins y h2
      · rw [e, Nat.add_comm]; exact .del x h3
termination_by a b => a.length + b.length

theorem lev_nil_right (a : List α) : lev a [] = a.length := by cases a <;> rw [lev]
theorem lev_nil_left (b : List α) : lev [] b = b.length := by rw [lev]
theorem lev_same (x : α) (a b : List α) : lev (x :: a) (x :: b) = lev a b := by rw [lev, if_pos rfl]
theorem lev_other {x y : α} (h : x ≠ y) (a b : List α) : lev (x :: a) (y :: b) = 1 + min (lev a b) (min (lev (x :: a) b) (lev a (y :: b))) := by rw [lev, if_neg h]

/-- One more at the front of either is one further, or one nearer, at most. -/
theorem lev_step : ∀ a b : List α, (∀ x, lev (x :: a) b ≤ lev a b + 1 ∧ lev a b ≤ lev (x :: a) b + 1) ∧ (∀ y, lev a (y :: b) ≤ lev a b + 1 ∧ lev a b ≤ lev a (y :: b) + 1)
  | [], [] => by simp [lev]
  | [], z :: b => by
    have ⟨h1, h2⟩ := lev_step ([] : List α) b
    refine ⟨fun x => ?_, fun y => by simp only [lev_nil_left, List.length_cons]; omega⟩
    have := h1 x
    have e1 := lev_nil_left (z :: b)
    have e2 := lev_nil_left b
    have e3 := lev_nil_right [x]
    simp only [List.length_cons, List.length_nil] at e1 e3
    by_cases h : x = z
    · subst h; rw [lev_same]; omega
    · rw [lev_other h]; omega
  | z :: a, [] => by
    have ⟨h1, h2⟩ := lev_step a ([] : List α)
    refine ⟨fun x => by simp only [lev_nil_right, List.length_cons]; omega, fun y => ?_⟩
    have := h2 y
    have e1 := lev_nil_right (z :: a)
    have e2 := lev_nil_right a
    have e3 := lev_nil_left [y]
    simp only [List.length_cons, List.length_nil] at e1 e3
    by_cases h : z = y
    · subst h; rw [lev_same]; omega
    · rw [lev_other h]; omega
  | u :: a, v :: b => by
    have ⟨p1, p2⟩ := lev_step a b
    have ⟨q1, q2⟩ := lev_step (u :: a) b
    have ⟨r1, r2⟩ := lev_step a (v :: b)
    have hu := p1 u
    have hv := p2 v
    have q2v := q2 v
    have r1u := r1 u
    refine ⟨fun x => ?_, fun y => ?_⟩
    · have := q1 x
      by_cases h : x = v
      · subst h; rw [lev_same]; omega
      · rw [lev_other h]; omega
    · have := r2 y
      by_cases h : u = y
      · subst h; rw [lev_same]; omega
      · rw [lev_other h]; omega
termination_by a b => a.length + b.length

/-- No way is shorter. -/
theorem lev_le {a b : List α} {n : Nat} (h : Ed a b n) : lev a b ≤ n := by
  induction h with
  | nil => simp [lev]
  | keep x _ ih => rw [lev_same]; exact ih
  | @turn x y a b n _ ih =>
    by_cases e : x = y
    · subst e; rw [lev_same]; omega
    · rw [lev_other e]; omega
  | @ins y a b n _ ih => have := ((lev_step a b).2 y).1; omega
  | @del x a b n _ ih => have := ((lev_step a b).1 x).1; omega

theorem lev_comm (a b : List α) : lev a b = lev b a := Nat.le_antisymm (lev_le (Ed.lev b a).symm) (lev_le (Ed.lev a b).symm)
theorem Ed.trans : ∀ {a b c : List α} {m n : Nat}, Ed a b m → Ed b c n → ∃ k, k ≤ m + n ∧ Ed a c k := by
  intro a b c m n h
  induction h generalizing c n with
  | nil => intro h2; exact ⟨n, by omega, h2⟩
  | @keep x a b m _ ih =>
    intro h2
    generalize hz : x :: b = z at h2
    induction h2 with
    | nil => cases hz
    | keep y h2 _ => cases hz; obtain ⟨k, hk, e⟩ := ih h2; exact ⟨k, hk, .keep _ e⟩
    | turn y y' h2 _ => cases hz; obtain ⟨k, hk, e⟩ := ih h2; exact ⟨k + 1, by omega, .turn _ _ e⟩
    | ins y' h2 ih2 => subst hz; obtain ⟨k, hk, e⟩ := ih2 rfl; exact ⟨k + 1, by omega, .ins _ e⟩
    | del y h2 _ => cases hz; obtain ⟨k, hk, e⟩ := ih h2; exact ⟨k + 1, by omega, .del _ e⟩
  | @turn x y a b m _ ih =>
    intro h2
    generalize hz : y :: b = z at h2
    induction h2 with
    | nil => cases hz
    | keep y h2 _ => cases hz; obtain ⟨k, hk, e⟩ := ih h2; exact ⟨k + 1, by omega, .turn _ _ e⟩
    | turn y y' h2 _ => cases hz; obtain ⟨k, hk, e⟩ := ih h2; exact ⟨k + 1, by omega, .turn _ _ e⟩
    | ins y' h2 ih2 => subst hz; obtain ⟨k, hk, e⟩ := ih2 rfl; exact ⟨k + 1, by omega, .ins _ e⟩
    | del y h2 _ => cases hz; obtain ⟨k, hk, e⟩ := ih h2; exact ⟨k + 1, by omega, .del _ e⟩
  | @ins y a b m _ ih =>
    intro h2
    generalize hz : y :: b = z at h2
    induction h2 with
    | nil => cases hz
    | keep y h2 _ => cases hz; obtain ⟨k, hk, e⟩ := ih h2; exact ⟨k + 1, by omega, .ins _ e⟩
    | turn y y' h2 _ => cases hz; obtain ⟨k, hk, e⟩ := ih h2; exact ⟨k + 1, by omega, .ins _ e⟩
    | ins y' h2 ih2 => subst hz; obtain ⟨k, hk, e⟩ := ih2 rfl; exact ⟨k + 1, by omega, .ins _ e⟩
    | del y h2 _ => cases hz; obtain ⟨k, hk, e⟩ := ih h2; exact ⟨k, by omega, e⟩
  | @del x a b m _ ih => intro h2; obtain ⟨k, hk, e⟩ := ih h2; exact ⟨k + 1, by omega, .del _ e⟩
theorem lev_triangle (a b c : List α) : lev a c ≤ lev a b + lev b c := by
  obtain ⟨k, hk, e⟩ := Ed.trans (Ed.lev a b) (Ed.lev b c)
  exact Nat.le_trans (lev_le e) hk
theorem Ed.snoc_keep {a b : List α} {n : Nat} (x : α) (h : Ed a b n) : Ed (a ++ [x]) (b ++ [x]) n := by
  induction h with
  | nil => exact .keep x .nil
  | keep y _ ih => exact .keep y ih
  | turn y z _ ih => exact .turn y z ih
  | ins y _ ih => exact .ins y ih
  | del y _ ih => exact .del y ih
theorem Ed.snoc_ins {a b : List α} {n : Nat} (x : α) (h : Ed a b n) : Ed a (b ++ [x]) (n + 1) := by
  induction h with
  | nil => exact .ins x .nil
  | keep y _ ih => exact .keep y ih
  | turn y z _ ih => exact .turn y z ih
  | ins y _ ih => exact .ins y ih
  | del y _ ih => exact .del y ih
theorem Ed.snoc_turn {a b : List α} {n : Nat} (x y : α) (h : Ed a b n) : Ed (a ++ [x]) (b ++ [y]) (n + 1) := by
  induction h with
  | nil => exact .turn x y .nil
  | keep y _ ih => exact .keep y ih
  | turn y z _ ih => exact .turn y z ih
  | ins y _ ih => exact .ins y ih
  | del y _ ih => exact .del y ih
theorem Ed.reverse {a b : List α} {n : Nat} (h : Ed a b n) : Ed a.reverse b.reverse n := by
  induction h with
  | nil => exact .nil
  | keep x _ ih => simpa using ih.snoc_keep x
  | turn x y _ ih => simpa using ih.snoc_turn x y
  | ins y _ ih => simpa using ih.snoc_ins y
  | del x _ ih => simpa using (ih.symm.snoc_ins x).symm
theorem lev_reverse (a b : List α) : lev a.reverse b.reverse = lev a b :=
  Nat.le_antisymm (lev_le (Ed.lev a b).reverse) (by have := lev_le (Ed.lev a.reverse b.reverse).reverse; simpa using this)
theorem lev_snoc (x : α) (a b : List α) : lev (a ++ [x]) (b ++ [x]) = lev a b := by
  rw [← lev_reverse]; simp only [List.reverse_append, List.reverse_cons, List.reverse_nil, List.nil_append, List.singleton_append]; rw [lev_same, lev_reverse]
theorem lev_self (a : List α) : lev a a = 0 := Nat.le_zero.1 (lev_le (Ed.refl a))
theorem Ed.zero {a b : List α} {n : Nat} (h : Ed a b n) : n = 0 → a = b := by
  induction h with
  | nil => intro _; rfl
  | keep x _ ih => intro e; rw [ih e]
  | turn | ins | del => intro e; omega
theorem lev_zero {a b : List α} : lev a b = 0 ↔ a = b := ⟨(Ed.lev a b).zero, fun e => by subst e; exact lev_self a⟩
theorem Ed.len {a b : List α} {n : Nat} (h : Ed a b n) : a.length ≤ b.length + n ∧ b.length ≤ a.length + n := by
  induction h with
  | nil => simp
  | keep | turn | ins | del => simp only [List.length_cons] at *; omega
theorem lev_len (a b : List α) : a.length ≤ b.length + lev a b ∧ b.length ≤ a.length + lev a b := (Ed.lev a b).len
theorem lev_max : ∀ a b : List α, lev a b ≤ max a.length b.length
  | [], b => by rw [lev_nil_left]; omega
  | x :: a, [] => by rw [lev_nil_right]; omega
  | x :: a, y :: b => by
    have := lev_max a b
    simp only [List.length_cons]
    by_cases h : x = y
    · subst h; rw [lev_same]; omega
    · rw [lev_other h]; omega
/-- As the reference reckons it: the least of three. -/
theorem lev_least (x y : α) (a b : List α) : lev (x :: a) (y :: b) = min (lev a (y :: b) + 1) (min (lev (x :: a) b + 1) (if x = y then lev a b else lev a b + 1)) := by
  by_cases h : x = y
  · subst h
    rw [lev_same, if_pos rfl]
    have := ((lev_step a b).1 x).2
    have := ((lev_step a b).2 x).2
    omega
  · rw [lev_other h, if_neg h]; omega
end Go.Proofs.Ytphnkoicfehalaa.Lv

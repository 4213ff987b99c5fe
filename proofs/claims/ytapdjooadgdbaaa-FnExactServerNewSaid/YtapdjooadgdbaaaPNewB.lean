/- A part of the proof: PNewB. -/
import Derived.Test.YtapdjooadgdbaaaGNewB
import Derived.Test.YtapdjooadgdbaaaED
set_option linter.unusedVariables false
namespace Go.E
open Go

/-! Plain: names and fields, in both. -/

abbrev FT := ByteArray × (Int × Int)
abbrev FLs := List FT

theorem mid {α : Type} {A B : List α} {x : α} : (A ++ x :: B)[A.length]? = some x := by simp
theorem drop_at {α : Type} {l : List α} {i : Nat} (h : i < l.length) : ∃ b, l[i]? = some b ∧ l.drop i = b :: l.drop (i + 1) :=
  ⟨l[i], List.getElem?_eq_getElem h, List.drop_eq_getElem_cons h⟩

theorem roomMax_eq : roomMax = 274877906944 := rfl

def lowerB (b : Int) : Bool := decide (97 ≤ b ∧ b ≤ 122)
def digitB (b : Int) : Bool := decide (48 ≤ b ∧ b ≤ 57)

theorem two (a b c d : Int) : iteB (leI a b) (some (leI c d)) (some Bool.false) = some (decide (a ≤ b ∧ c ≤ d)) := by
  rw [iteB_leI]; unfold leI; by_cases h : a ≤ b <;> simp [h]
theorem lower_ok (b : Int) : impl_lower b = some (lowerB b) := by rw [impl_lower_eq, two]; rfl
theorem digit_ok (b : Int) : impl_digit b = some (digitB b) := by rw [impl_digit_eq, two]; rfl
theorem within_ok (n a b : Int) : impl_within (n, (a, b)) = some (decide (a ≤ n ∧ n ≤ b)) := by rw [impl_within_eq, two]
theorem l1In_ok (n a b : Int) : spec_l1In (n, (a, b)) = some (decide (a ≤ n ∧ n ≤ b)) := by rw [spec_l1In_eq, two]

/-- A loop that looks whether all is well. -/
theorem loop_all {l : Int → Option Bool} {n : Nat} {p : Nat → Bool} {fin : Bool} (h : ∀ i : Nat, i < n → l i = if p i = true then l ((i + 1 : Nat) : Int) else some false) (h' : l n = some fin) :
    ∀ k i : Nat, i + k = n → l i = some (((List.range' i k).all p) && fin)
  | 0, i, e => by simp at e; subst e; simpa using h'
  | k + 1, i, e => by
    rw [h i (by omega), List.range'_succ, List.all_cons]
    cases hp : p i with
    | true => rw [if_pos rfl, loop_all h h' k (i + 1) (by omega)]; simp
    | false => simp

def byteAt (s : ByteArray) (i : Nat) : Int := ((s.data[i]?).map fun b => (b.toNat : Int)).getD 0
theorem atS_nat (s : ByteArray) (i : Nat) (h : i < s.size) : atS s i = some (byteAt s i) := by
  have h' : i < s.data.size := h
  unfold atS byteAt
  rw [if_pos (by omega)]
  simp [Array.getElem?_eq_getElem h']

/-- A byte of a name. -/
def nameC (s : ByteArray) (i : Nat) : Bool := lowerB (byteAt s i) || (!decide (i = 0) && digitB (byteAt s i))
def nameB (s : ByteArray) : Bool := ((List.range' 0 s.size).all (nameC s)) && decide (1 ≤ (s.size : Int) ∧ (s.size : Int) ≤ 8)

theorem iName_ok (s : ByteArray) (hs : s.size ≤ 1048576) : impl_NameOk s = some (nameB s) := by
  rw [impl_NameOk_eq, lenS_eq]
  refine loop_all (l := fun i => impl_NameOk.l2 s (s.size : Int) i) (n := s.size) (p := nameC s) (fin := decide (1 ≤ (s.size : Int) ∧ (s.size : Int) ≤ 8)) (fun i hi => ?_) ?_ s.size 0 (by omega)
  · rw [impl_NameOk.l2_eq, iteB_ltI, if_pos (by omega)]
    simp only [atS_nat s i hi, bindO_some', lower_ok, digit_ok, iteB_notB, iteB_eqI]
    rw [addI64 (i : Int) 1 (by omega) (by omega), show (i : Int) + 1 = ((i + 1 : Nat) : Int) by omega]
    unfold nameC
    cases hl : lowerB (byteAt s i) with
    | true => rfl
    | false =>
      by_cases h0 : i = 0
      · subst h0; simp [iteB]
      · have : ¬ (i : Int) = 0 := by omega
        rw [if_neg this]
        cases digitB (byteAt s i) <;> simp [iteB, h0]
  · rw [impl_NameOk.l2_eq, iteB_ltI, if_neg (by omega), impl_NameOk.j7_eq, within_ok, bindO_some', lenS_eq]

theorem sName_ok (s : ByteArray) (hs : s.size ≤ 1048576) : spec_NameOk s = some (nameB s) := by
  rw [spec_NameOk_eq]
  refine loop_all (l := fun i => spec_NameOk.l2 s i) (n := s.size) (p := nameC s) (fin := decide (1 ≤ (s.size : Int) ∧ (s.size : Int) ≤ 8)) (fun i hi => ?_) ?_ s.size 0 (by omega)
  · rw [spec_NameOk.l2_eq, iteB_ltI, lenS_eq, if_pos (by omega)]
    simp only [atS_nat s i hi, bindO_some', iteB_notB, iteB_eqI, iteB_leI, iteB_ltI, iteB_f]
    rw [addI64 (i : Int) 1 (by omega) (by omega), show (i : Int) + 1 = ((i + 1 : Nat) : Int) by omega]
    unfold nameC lowerB digitB
    generalize byteAt s i = b
    have rest : (if (i : Int) = 0 then some false else if b < 48 then some false else if 57 < b then some false else spec_NameOk.l2 s ((i + 1 : Nat) : Int)) = if (!decide (i = 0) && decide (48 ≤ b ∧ b ≤ 57)) = true then spec_NameOk.l2 s ((i + 1 : Nat) : Int) else some false := by
      by_cases h0 : i = 0
      · subst h0; simp
      · rw [if_neg (by omega)]
        by_cases h1 : b < 48
        · rw [if_pos h1, if_neg (by simp; omega)]
        · rw [if_neg h1]
          by_cases h2 : 57 < b
          · rw [if_pos h2, if_neg (by simp; omega)]
          · rw [if_neg h2, if_pos (by simp [h0]; omega)]
    rw [rest]
    by_cases h1 : 97 ≤ b
    · by_cases h2 : b ≤ 122
      · rw [if_pos h1, if_pos h2]; simp [h1, h2]
      · rw [if_pos h1, if_neg h2]; simp [h1, h2]
    · rw [if_neg h1]; simp [h1]
  · rw [spec_NameOk.l2_eq, iteB_ltI, lenS_eq, if_neg (by omega), spec_NameOk.j7_eq, l1In_ok, bindO_some', lenS_eq]

/-! The place of a name. -/

theorem index_l2 (l : List ByteArray) (v : ByteArray) (hl : l.length ≤ 1048576) : ∀ (n i : Nat), i + n = l.length → ∃ r, slices_Index_string_string.l2 l v (l.length : Int) i = some r ∧ leI 0 r = (l.drop i).any (fun y => decide (y = v))
  | 0, i, e => by
    have hd : l.drop i = [] := List.drop_eq_nil_of_le (by omega)
    rw [slices_Index_string_string.l2_eq, iteB_ltI, if_neg (by omega), slices_Index_string_string.j7_eq, hd]
    exact ⟨-1, rfl, rfl⟩
  | n + 1, i, e => by
    obtain ⟨y, hy, hd⟩ := drop_at (l := l) (i := i) (by omega)
    rw [slices_Index_string_string.l2_eq, iteB_ltI, if_pos (by omega), atL_nat, hy, bindO_some', iteB_eqS, hd, List.any_cons]
    by_cases h : v = y
    · rw [if_pos h]
      refine ⟨_, rfl, ?_⟩
      have : decide (y = v) = true := decide_eq_true h.symm
      rw [this]
      unfold leI; simp
    · rw [if_neg h, addI64 (i : Int) 1 (by omega) (by omega), show (i : Int) + 1 = ((i + 1 : Nat) : Int) by omega]
      obtain ⟨r, h1, h2⟩ := index_l2 l v hl n (i + 1) (by omega)
      have : decide (y = v) = false := decide_eq_false (fun e => h e.symm)
      exact ⟨r, h1, by rw [h2, this]; rfl⟩

theorem contains_ok (l : List ByteArray) (v : ByteArray) (hl : l.length ≤ 1048576) : slices_Contains_string_string (l, v) = some (l.any (fun y => decide (y = v))) := by
  obtain ⟨r, h1, h2⟩ := index_l2 l v hl l.length 0 (by omega)
  rw [show ((0 : Nat) : Int) = 0 from rfl] at h1
  rw [slices_Contains_string_string_eq, slices_Index_string_string_eq, lenL_eq, h1, bindO_some', h2]
  rfl

theorem l2Field_l2 (l : FLs) (v : ByteArray) (hl : l.length ≤ 1048576) : ∀ (n i : Nat), i + n = l.length → ∃ r, spec_l2Field.l2 l v i = some r ∧
    ((∀ y ∈ l.drop i, y.1 ≠ v) → r = -1) ∧ (∀ j y, i ≤ j → l[j]? = some y → y.1 = v → (∀ k z, i ≤ k → k < j → l[k]? = some z → z.1 ≠ v) → r = (j : Int))
  | 0, i, e => by
    rw [spec_l2Field.l2_eq, iteB_ltI, lenL_eq, if_neg (by omega), spec_l2Field.j6_eq]
    refine ⟨-1, rfl, fun _ => rfl, fun j y hj hy => ?_⟩
    have := (List.getElem?_eq_some_iff.1 hy).1
    omega
  | n + 1, i, e => by
    obtain ⟨y, hy, hd⟩ := drop_at (l := l) (i := i) (by omega)
    rw [spec_l2Field.l2_eq, iteB_ltI, lenL_eq, if_pos (by omega), atL_nat, hy, bindO_some', iteB_eqS]
    by_cases h : y.1 = v
    · rw [if_pos h]
      refine ⟨_, rfl, fun hn => absurd h (hn y (by rw [hd]; simp)), fun j z hj hz hv hk => ?_⟩
      by_cases e : j = i
      · rw [e]
      · exact absurd h (hk i y (Nat.le_refl _) (by omega) hy)
    · rw [if_neg h, addI64 (i : Int) 1 (by omega) (by omega), show (i : Int) + 1 = ((i + 1 : Nat) : Int) by omega]
      obtain ⟨r, h1, h2, h3⟩ := l2Field_l2 l v hl n (i + 1) (by omega)
      refine ⟨r, h1, fun hn => h2 (fun z hz => hn z (by rw [hd]; simp [hz])), fun j z hj hz hv hk => ?_⟩
      by_cases e : j = i
      · subst e; rw [hy] at hz; cases hz; exact absurd hv h
      · exact h3 j z (by omega) hz hv (fun k u hk1 hk2 => hk k u (by omega) hk2)

/-- Is a field's name none of those ahead? -/
def newName (l : FLs) (i : Nat) (v : ByteArray) : Bool := !((l.take i).map (·.1)).any (fun y => decide (y = v))

theorem first_of : ∀ (l : FLs) (v : ByteArray), (∃ y ∈ l, y.1 = v) → ∃ (j : Nat) (y : FT), l[j]? = some y ∧ y.1 = v ∧ ∀ (k : Nat) (z : FT), k < j → l[k]? = some z → z.1 ≠ v
  | [], v, ⟨y, hy, _⟩ => by cases hy
  | x :: l, v, ⟨y, hy, hv⟩ => by
    by_cases hx : x.1 = v
    · exact ⟨0, x, rfl, hx, fun k z hk => absurd hk (Nat.not_lt_zero _)⟩
    · rcases List.mem_cons.1 hy with rfl | hy
      · exact absurd hv hx
      · obtain ⟨j, z, h1, h2, h3⟩ := first_of l v ⟨y, hy, hv⟩
        refine ⟨j + 1, z, by rw [List.getElem?_cons_succ]; exact h1, h2, fun k u hk hu => ?_⟩
        cases k with
        | zero => simp at hu; subst hu; exact hx
        | succ k => exact h3 k u (by omega) (by simpa using hu)

theorem l2Field_new (l : FLs) (hl : l.length ≤ 1048576) {i : Nat} {f : FT} (hi : l[i]? = some f) : ∃ r, spec_l2Field (l, f.1) = some r ∧ decide (r = (i : Int)) = newName l i f.1 := by
  obtain ⟨r, h1, _, h3⟩ := l2Field_l2 l f.1 hl l.length 0 (by omega)
  rw [show ((0 : Nat) : Int) = 0 from rfl] at h1
  refine ⟨r, by rw [spec_l2Field_eq]; exact h1, ?_⟩
  obtain ⟨j, y, k1, k2, k3⟩ := first_of l f.1 ⟨f, List.mem_of_getElem? hi, rfl⟩
  have hr := h3 j y (Nat.zero_le _) k1 k2 (fun k z _ hk hz => k3 k z hk hz)
  have hji : j ≤ i := Nat.le_of_not_lt fun h => k3 i f h hi rfl
  subst hr
  unfold newName
  by_cases e : j = i
  · subst e
    have : ((l.take j).map (·.1)).any (fun y => decide (y = f.1)) = false := by
      rw [List.any_eq_false]
      intro z hz
      obtain ⟨u, hu, rfl⟩ := List.mem_map.1 hz
      obtain ⟨k, hk⟩ := List.mem_iff_getElem?.1 hu
      rw [List.getElem?_take] at hk
      split at hk
      · simpa using k3 k u (by assumption) hk
      · cases hk
    rw [this]; simp
  · have : ((l.take i).map (·.1)).any (fun y => decide (y = f.1)) = true := by
      rw [List.any_eq_true]
      refine ⟨y.1, List.mem_map.2 ⟨y, List.mem_of_getElem? (i := j) ?_, rfl⟩, by simpa using k2⟩
      rw [List.getElem?_take, if_pos (by omega)]; exact k1
    rw [this, decide_eq_false (by omega)]; rfl

/-- A field's kind and weight. -/
def kindB (f : FT) : Bool := decide (1 ≤ f.2.1 ∧ f.2.1 ≤ 3) && (if f.2.1 = 1 then decide (1 ≤ f.2.2 ∧ f.2.2 ≤ 9) else decide (f.2.2 = 0))
def fieldB (l : FLs) (i : Nat) : Bool := match l[i]? with
  | some f => nameB f.1 && (newName l i f.1 && kindB f)
  | none => false
def fieldsB (l : FLs) : Bool := ((List.range' 0 l.length).all (fieldB l)) && decide (1 ≤ (l.length : Int) ∧ (l.length : Int) ≤ 4)

theorem sFields_ok (l : FLs) (hl : l.length ≤ 1048576) (hs : ∀ f ∈ l, f.1.size ≤ 1048576) : spec_FieldsOk l = some (fieldsB l) := by
  rw [spec_FieldsOk_eq]
  refine loop_all (l := fun i => spec_FieldsOk.l2 l i) (n := l.length) (p := fieldB l) (fin := decide (1 ≤ (l.length : Int) ∧ (l.length : Int) ≤ 4)) (fun i hi => ?_) ?_ l.length 0 (by omega)
  · have hf : l[i]? = some l[i] := List.getElem?_eq_getElem hi
    generalize l[i] = f at hf
    obtain ⟨r, hr, hrn⟩ := l2Field_new l hl hf
    rw [spec_FieldsOk.l2_eq, iteB_ltI, lenL_eq, if_pos (by omega)]
    have hsz := hs f (List.mem_of_getElem? hf)
    simp only [atL_nat, hf, bindO_some', iteB_eqI, l1In_ok, sName_ok f.1 hsz, hr, iteB_notB, iteB_f]
    rw [addI64 (i : Int) 1 (by omega) (by omega), show (i : Int) + 1 = ((i + 1 : Nat) : Int) by omega]
    have e : fieldB l i = (nameB f.1 && (newName l i f.1 && kindB f)) := by unfold fieldB; rw [hf]
    rw [e, ← hrn]
    unfold kindB
    generalize spec_FieldsOk.l2 l ((i + 1 : Nat) : Int) = X
    by_cases h1 : f.2.1 = 1
    · have c1 : decide (2 ≤ f.2.1 ∧ f.2.1 ≤ 3) = false := decide_eq_false (by omega)
      have c2 : decide (1 ≤ f.2.1 ∧ f.2.1 ≤ 3) = true := decide_eq_true (by omega)
      rw [if_pos h1, if_pos h1, c1, c2, iteB_f]
      cases nameB f.1
      · rfl
      · by_cases hri : r = (i : Int)
        · rw [if_pos hri, decide_eq_true hri, iteB_t]
          cases decide (1 ≤ f.2.2 ∧ f.2.2 ≤ 9) <;> rfl
        · rw [if_neg hri, decide_eq_false hri, iteB_t]; rfl
    · rw [if_neg h1, if_neg h1]
      have c2 : decide (1 ≤ f.2.1 ∧ f.2.1 ≤ 3) = decide (2 ≤ f.2.1 ∧ f.2.1 ≤ 3) := by
        by_cases h : 2 ≤ f.2.1 ∧ f.2.1 ≤ 3
        · rw [decide_eq_true h, decide_eq_true (by omega)]
        · rw [decide_eq_false h, decide_eq_false (by omega)]
      rw [c2]
      cases nameB f.1
      · cases decide (2 ≤ f.2.1 ∧ f.2.1 ≤ 3) <;> rfl
      · by_cases hri : r = (i : Int)
        · rw [if_pos hri, if_pos hri, decide_eq_true hri]
          by_cases hw : f.2.2 = 0
          · rw [if_pos hw, decide_eq_true hw]
            cases decide (2 ≤ f.2.1 ∧ f.2.1 ≤ 3) <;> rfl
          · rw [if_neg hw, decide_eq_false hw]
            cases decide (2 ≤ f.2.1 ∧ f.2.1 ≤ 3) <;> rfl
        · rw [if_neg hri, if_neg hri, decide_eq_false hri]
          cases decide (2 ≤ f.2.1 ∧ f.2.1 ≤ 3) <;> rfl
  · rw [spec_FieldsOk.l2_eq, iteB_ltI, lenL_eq, if_neg (by omega), spec_FieldsOk.j9_eq, l1In_ok, bindO_some', lenL_eq]

theorem iFields_ok (l : FLs) (hl : l.length ≤ 1048576) (hs : ∀ f ∈ l, f.1.size ≤ 1048576) : impl_FieldsOk l = some (fieldsB l) := by
  rw [impl_FieldsOk_eq, lenL_eq]
  have := loop_all (l := fun i => impl_FieldsOk.l3 l l (l.length : Int) i ((l.take i.toNat).map (·.1))) (n := l.length) (p := fieldB l) (fin := decide (1 ≤ (l.length : Int) ∧ (l.length : Int) ≤ 4)) (fun i hi => ?_) ?_ l.length 0 (by omega)
  · exact this
  · have hf : l[i]? = some l[i] := List.getElem?_eq_getElem hi
    generalize l[i] = f at hf
    have hsz := hs f (List.mem_of_getElem? hf)
    simp only [Int.toNat_natCast]
    have hlen : ((l.take i).map (·.1)).length = i := by simp; omega
    have nx : appL ((l.take i).map (·.1)) [f.1] = (l.take (i + 1)).map (·.1) := by
      unfold appL; rw [List.take_add_one, hf]; simp
    have step : ∀ b : Bool, (b = if f.2.1 = 1 then decide (1 ≤ f.2.2 ∧ f.2.2 ≤ 9) else decide (f.2.2 = 0)) → impl_FieldsOk.j8 l b l (l.length : Int) i f.1 f.2.1 f.2.2 ((l.take i).map (·.1)) =
        if fieldB l i = true then impl_FieldsOk.l3 l l (l.length : Int) ((i + 1 : Nat) : Int) ((l.take (i + 1)).map (·.1)) else some false := fun b hb => by
      rw [impl_FieldsOk.j8_eq]
      simp only [iName_ok f.1 hsz, bindO_some', contains_ok _ f.1 (by rw [hlen]; omega), within_ok, iteB_notB, iteB_room]
      rw [if_pos (by rw [hlen, roomMax_eq]; simp; omega), nx, addI64 (i : Int) 1 (by omega) (by omega), show (i : Int) + 1 = ((i + 1 : Nat) : Int) by omega]
      have e : fieldB l i = (nameB f.1 && (newName l i f.1 && kindB f)) := by unfold fieldB; rw [hf]
      rw [e]
      unfold kindB newName
      rw [← hb]
      generalize impl_FieldsOk.l3 l l (l.length : Int) ((i + 1 : Nat) : Int) ((l.take (i + 1)).map (·.1)) = X
      cases nameB f.1 <;> cases ((l.take i).map (·.1)).any (fun y => decide (y = f.1)) <;> cases decide (1 ≤ f.2.1 ∧ f.2.1 ≤ 3) <;> cases b <;> rfl
    rw [impl_FieldsOk.l3_eq, iteB_ltI, if_pos (by omega)]
    simp only [atL_nat, hf, bindO_some', iteB_eqI, within_ok]
    by_cases h1 : f.2.1 = 1
    · rw [if_pos h1, step _ (by rw [if_pos h1])]
    · rw [if_neg h1, step _ (by rw [if_neg h1]; rfl)]
  · rw [impl_FieldsOk.l3_eq, iteB_ltI, if_neg (by omega), impl_FieldsOk.j12_eq, within_ok, bindO_some', lenL_eq]
end Go.E

set_option linter.unusedVariables false
namespace Go.E
open Go

/-! Plain: the law 'FnExactServerNew'. -/

theorem size_cat (a b : ByteArray) : (catS a b).size = a.size + b.size := by unfold catS; exact ByteArray.size_append

theorem markT_l4 : ∀ (n k : Nat) (out : ByteArray), k ≤ n → out.size + k ≤ 1000000000 → ∃ s, laws_markText.l4 (k : Int) out = some s
  | 0, k, out, hn, hs => by
    rw [laws_markText.l4_eq, iteB_ltI, if_neg (by omega), laws_markText.j7_eq, iteB_roomS, if_pos (by have : (bs [109]).size = 1 := rfl; rw [this, roomMax_eq]; omega)]
    exact ⟨_, rfl⟩
  | n + 1, k, out, hn, hs => by
    by_cases h0 : 0 < k
    · rw [laws_markText.l4_eq, iteB_ltI, if_pos (by omega)]
      simp only [iteB_eqI, iteB_roomS]
      have e1 : ∀ c : Int, (strOf [c]).size = 1 := fun c => rfl
      have ed : divI Go.IntKind.i64 (k : Int) 10 = ((k / 10 : Nat) : Int) := by
        unfold divI
        have : Int.tdiv (k : Int) 10 = ((k / 10 : Nat) : Int) := rfl
        rw [this]
        exact IntWalk.i64_in _ ⟨by omega, by omega⟩
      rw [if_neg (by omega), if_pos (by rw [e1, roomMax_eq]; omega), if_neg (by omega), ed]
      refine markT_l4 n (k / 10) _ (by omega) ?_
      have : ∀ c, (catS (strOf [c]) out).size = 1 + out.size := fun c => by rw [size_cat, e1]
      rw [this]; omega
    · rw [laws_markText.l4_eq, iteB_ltI, if_neg (by omega), laws_markText.j7_eq, iteB_roomS, if_pos (by have : (bs [109]).size = 1 := rfl; rw [this, roomMax_eq]; omega)]
      exact ⟨_, rfl⟩

noncomputable def mkT (k : Int) : ByteArray := (laws_markText k).getD ⟨#[]⟩
theorem markT_ok (k : Int) (h : k ≤ 1000000000) : laws_markText k = some (mkT k) := by
  have : ∃ s, laws_markText k = some s := by
    rw [laws_markText_eq, iteB_leI]
    split
    · exact ⟨_, rfl⟩
    · obtain ⟨n, rfl⟩ : ∃ n : Nat, k = (n : Int) := ⟨k.toNat, by omega⟩
      exact markT_l4 n n (bs []) (Nat.le_refl _) (by have : (bs []).size = 0 := rfl; rw [this]; omega)
  obtain ⟨s, hs⟩ := this
  unfold mkT; rw [hs]; rfl

noncomputable def mkF : Int → FLs → FLs
  | _, [] => []
  | k, _ :: r => (mkT k, (k + 1, k + 2)) :: mkF (k + 3) r
theorem mkF_len : ∀ (l : FLs) (k : Int), (mkF k l).length = l.length
  | [], _ => rfl
  | _ :: r, k => by simp only [mkF, List.length_cons, mkF_len r]

theorem markF_l2 : ∀ (r A : FLs) (k : Int), 0 ≤ k → k + 3 * (r.length : Int) ≤ 1000000000 → A.length + r.length ≤ 100000000 → laws_markFieldS.l2 k (A.length : Int) (A ++ r) = some (k + 3 * (r.length : Int), A ++ mkF k r)
  | [], A, k, h0, h1, h2 => by
    rw [laws_markFieldS.l2_eq, iteB_ltI, lenL_eq, if_neg (by simp), laws_markFieldS.j10_eq]; simp [mkF]
  | x :: r, A, k, h0, h1, h2 => by
    simp only [List.length_cons] at h1 h2
    have hat : ∀ u : FT, (A ++ u :: r)[A.length]? = some u := fun u => mid
    have hs : ∀ u v : FT, setL (A ++ u :: r) (A.length : Int) v = A ++ v :: r := fun u v => by
      unfold setL; rw [Int.toNat_natCast, List.set_append_right _ _ (Nat.le_refl _)]; simp
    have hl : ∀ u : FT, ((A ++ u :: r).length : Int) = (A.length : Int) + (r.length : Int) + 1 := fun u => by simp; omega
    have c1 : ∀ u : FT, ((A.length : Int) < ((A ++ u :: r).length : Int)) = True := fun u => eq_true (by rw [hl]; omega)
    have c2 : ((0 : Int) ≤ (A.length : Int)) = True := eq_true (by omega)
    rw [laws_markFieldS.l2_eq]
    simp only [iteB_ltI, iteB_leI, lenL_eq, c1, c2, if_true, markT_ok k (by omega : k ≤ 1000000000), bindO_some', atL_nat, hat, hs]
    rw [addI64 k 1 (by omega) (by omega), addI64 (k + 1) 1 (by omega) (by omega), addI64 (k + 1 + 1) 1 (by omega) (by omega), addI64 (A.length : Int) 1 (by omega) (by omega)]
    have e : (A.length : Int) + 1 = (((A ++ [(mkT k, (k + 1, k + 1 + 1))]).length : Nat) : Int) := by simp
    have e2 : A ++ (mkT k, (k + 1, k + 1 + 1)) :: r = (A ++ [(mkT k, (k + 1, k + 1 + 1))]) ++ r := by simp
    rw [e, e2, show k + 1 + 1 + 1 = k + 3 by omega, markF_l2 r _ (k + 3) (by omega) (by omega) (by simp; omega)]
    simp only [mkF, List.length_cons, List.append_assoc, List.singleton_append, show k + 1 + 1 = k + 2 by omega]
    congr 2
    omega

theorem markF_ok (l : FLs) (h : l.length ≤ 100000000) : laws_markFieldS (l, 1) = some (1 + 3 * (l.length : Int), mkF 1 l) := by
  rw [laws_markFieldS_eq]
  exact markF_l2 l [] 1 (by omega) (by omega) (by simpa using h)

theorem heldF_l2 : ∀ (r A : FLs) (k : Int), 0 ≤ k → k + 3 * (r.length : Int) ≤ 1000000000 → A.length + r.length ≤ 100000000 → laws_heldFieldS.l2 (A ++ mkF k r) k (A.length : Int) = some (k + 3 * (r.length : Int))
  | [], A, k, h0, h1, h2 => by
    rw [laws_heldFieldS.l2_eq, iteB_ltI, lenL_eq, if_neg (by simp [mkF]), laws_heldFieldS.j13_eq]; simp
  | x :: r, A, k, h0, h1, h2 => by
    simp only [List.length_cons] at h1 h2
    simp only [mkF]
    have hat : (A ++ (mkT k, (k + 1, k + 2)) :: mkF (k + 3) r)[A.length]? = some (mkT k, (k + 1, k + 2)) := mid
    have e2 : A ++ (mkT k, (k + 1, k + 2)) :: mkF (k + 3) r = (A ++ [(mkT k, (k + 1, k + 2))]) ++ mkF (k + 3) r := by simp
    have e : (A.length : Int) + 1 = (((A ++ [(mkT k, (k + 1, k + 2))]).length : Nat) : Int) := by simp
    rw [laws_heldFieldS.l2_eq, iteB_ltI, lenL_eq, if_pos (by simp; omega)]
    simp only [atL_nat, hat, bindO_some', markT_ok k (by omega : k ≤ 1000000000), iteB_notB, iteB_eqS, iteB_eqI]
    rw [if_pos trivial, addI64 k 1 (by omega) (by omega), if_pos rfl, addI64 (k + 1) 1 (by omega) (by omega), if_pos (by omega), addI64 (k + 1 + 1) 1 (by omega) (by omega), addI64 (A.length : Int) 1 (by omega) (by omega), e, e2, show k + 1 + 1 + 1 = k + 3 by omega, heldF_l2 r _ (k + 3) (by omega) (by omega) (by simp; omega)]
    simp only [List.length_cons]
    congr 1
    omega

theorem heldF_ok (l : FLs) (h : l.length ≤ 100000000) : laws_heldFieldS (mkF 1 l, 1) = some (1 + 3 * (l.length : Int)) := by
  rw [laws_heldFieldS_eq]
  exact heldF_l2 l [] 1 (by omega) (by omega) (by simpa using h)

/-! Sizes, copies, equal ones. -/

theorem szField_ok (x : FT) (h : x.1.size ≤ 9223372036854775807) (left : Int) (h0 : 0 ≤ left) (h1 : left ≤ 1048576) :
    laws_szField (x, left) = some (if left - (x.1.size : Int) < 0 then -1 else left - (x.1.size : Int)) := by
  rw [laws_szField_eq, lenS_eq, subI64 left _ (by omega) (by omega), iteB_ltI]
  split <;> rfl

theorem szFieldS_l5 (l : FLs) (hg : ∀ x ∈ l, x.1.size ≤ 9223372036854775807) (hn : l.length ≤ 1048576) : ∀ (n i : Nat) (left : Int), i + n = l.length → 0 ≤ left → left ≤ 1048576 →
    ∃ v, laws_szFieldS.l5 l left i = some v ∧ (0 ≤ v → ∀ x ∈ l.drop i, x.1.size ≤ 1048576)
  | 0, i, left, e, h0, h1 => by
    refine ⟨left, ?_, fun _ x hx => ?_⟩
    · rw [laws_szFieldS.l5_eq, iteB_ltI, lenL_eq, if_neg (by omega), laws_szFieldS.j10_eq]
    · rw [List.drop_eq_nil_of_le (by omega)] at hx; cases hx
  | n + 1, i, left, e, h0, h1 => by
    obtain ⟨x, hx, hd⟩ := drop_at (l := l) (i := i) (by omega)
    have hxs := hg x (List.mem_of_getElem? hx)
    rw [laws_szFieldS.l5_eq, iteB_ltI, lenL_eq, if_pos (by omega), atL_nat, hx, bindO_some', szField_ok x hxs left h0 h1, bindO_some', iteB_ltI]
    by_cases hc : left - (x.1.size : Int) < 0
    · rw [if_pos hc, if_pos (by omega)]
      exact ⟨-1, rfl, fun h => by omega⟩
    · rw [if_neg hc, if_neg hc, addI64 (i : Int) 1 (by omega) (by omega), show (i : Int) + 1 = ((i + 1 : Nat) : Int) by omega]
      obtain ⟨v, k1, k2⟩ := szFieldS_l5 l hg hn n (i + 1) (left - (x.1.size : Int)) (by omega) (by omega) (by omega)
      refine ⟨v, k1, fun hv y hy => ?_⟩
      rw [hd] at hy
      rcases List.mem_cons.1 hy with rfl | hy
      · omega
      · exact k2 hv y hy

theorem szFieldS_ok (l : FLs) (hg : ∀ x ∈ l, x.1.size ≤ 9223372036854775807) (hn : l.length ≤ 9223372036854775807) : ∃ v, laws_szFieldS (l, 1048576) = some v ∧ (0 ≤ v → l.length ≤ 1048576 ∧ ∀ x ∈ l, x.1.size ≤ 1048576) := by
  rw [laws_szFieldS_eq, lenL_eq, subI64 1048576 _ (by omega) (by omega), iteB_ltI]
  by_cases hc : (1048576 : Int) - (l.length : Int) < 0
  · rw [if_pos hc]; exact ⟨-1, rfl, fun h => by omega⟩
  · rw [if_neg hc]
    obtain ⟨v, k1, k2⟩ := szFieldS_l5 l hg (by omega) l.length 0 (1048576 - (l.length : Int)) (by omega) (by omega) (by omega)
    exact ⟨v, k1, fun hv => ⟨by omega, fun x hx => k2 hv x (by simpa using hx)⟩⟩

theorem toFieldS_l3 (l : FLs) (hn : l.length ≤ 1048576) (z : FT) : ∀ (n i : Nat), i + n = l.length → laws_toFieldS.l3 l i (l.take i ++ List.replicate n z) = some l
  | 0, i, e => by
    rw [laws_toFieldS.l3_eq, iteB_ltI, lenL_eq, if_neg (by omega), laws_toFieldS.j6_eq, List.take_of_length_le (by omega)]; simp
  | n + 1, i, e => by
    obtain ⟨x, hx, hd⟩ := drop_at (l := l) (i := i) (by omega)
    have hl : (l.take i ++ List.replicate (n + 1) z).length = l.length := by simp; omega
    have hat : (l.take i ++ List.replicate (n + 1) z)[i]? = some z := by
      rw [List.getElem?_append_right (by simp; omega)]
      simp only [List.length_take]
      rw [Nat.min_eq_left (by omega), Nat.sub_self]; rfl
    have ht : l.take (i + 1) = l.take i ++ [x] := by rw [List.take_add_one, hx]; rfl
    have hset : setL (l.take i ++ List.replicate (n + 1) z) i x = l.take (i + 1) ++ List.replicate n z := by
      unfold setL
      rw [Int.toNat_natCast, List.set_append_right _ _ (by simp; omega), ht]
      simp only [List.length_take]
      rw [Nat.min_eq_left (by omega), Nat.sub_self, List.replicate_succ]; simp
    rw [laws_toFieldS.l3_eq, iteB_ltI, lenL_eq, if_pos (by omega), atL_nat, hx, bindO_some', laws_toField_eq, bindO_some', iteB_leI, if_pos (by omega), iteB_ltI, lenL_eq, hl, if_pos (by omega), atL_nat, hat, bindO_some', hset,
      addI64 (i : Int) 1 (by omega) (by omega), show (i : Int) + 1 = ((i + 1 : Nat) : Int) by omega]
    exact toFieldS_l3 l hn z n (i + 1) (by omega)

theorem toFieldS_ok (l : FLs) (hn : l.length ≤ 1048576) : laws_toFieldS l = some l := by
  rw [laws_toFieldS_eq, lenL_eq, iteB_eqI, if_pos rfl, iteB_roomN, if_pos (by rw [roomMax_eq]; omega)]
  exact toFieldS_l3 l hn _ l.length 0 (by omega)

theorem eqField_ok (x : FT) : laws_eqField (x, x) = some true := by
  rw [laws_eqField_eq, iteB_notB, iteB_notB, iteB_notB, iteB_eqS, iteB_eqI, iteB_eqI, if_pos rfl, if_pos rfl, if_pos rfl]

theorem eqFieldS_ok (l : FLs) (hn : l.length ≤ 1048576) : laws_eqFieldS (l, l) = some true := by
  rw [laws_eqFieldS_eq, iteB_notB, iteB_eqI, if_pos rfl]
  have := loop_all (l := fun i => laws_eqFieldS.l4 l l i) (n := l.length) (p := fun _ => true) (fin := true) (fun i hi => ?_) ?_ l.length 0 (by omega)
  · exact this.trans (by simp)
  · rw [laws_eqFieldS.l4_eq, iteB_ltI, lenL_eq, if_pos (by omega)]
    simp only [atL_nat, List.getElem?_eq_getElem hi, bindO_some', eqField_ok, iteB_notB]
    rw [iteB_t, addI64 (i : Int) 1 (by omega) (by omega)]; rfl
  · rw [laws_eqFieldS.l4_eq, iteB_ltI, lenL_eq, if_neg (by omega), laws_eqFieldS.j8_eq]

/-! Servers without documents. -/

abbrev IT := FLs × (List (Int × (ByteArray × List (ByteArray × ByteArray))) × (List (ByteArray × (ByteArray × List (Int × List Int))) × Int))
abbrev SVT := IT × (List (ByteArray × Int) × List ByteArray)

def newS (l : FLs) : SVT := ((l, ([], ([], 0))), ([], []))

theorem eqServer_new (l : FLs) (hn : l.length ≤ 1048576) : laws_eqServer (((l, ([], ([], 0))), ([], [])), ((l, ([], ([], 0))), ([], []))) = some true := by
  have e1 : laws_eqRowS (([] : List (Int × (ByteArray × List (ByteArray × ByteArray)))), []) = some true := by
    rw [laws_eqRowS_eq, iteB_notB, iteB_eqI, if_pos rfl, laws_eqRowS.l4_eq, iteB_ltI, if_neg (by decide), laws_eqRowS.j8_eq]
  have e2 : laws_eqEntryS (([] : List (ByteArray × (ByteArray × List (Int × List Int)))), []) = some true := by
    rw [laws_eqEntryS_eq, iteB_notB, iteB_eqI, if_pos rfl, laws_eqEntryS.l4_eq, iteB_ltI, if_neg (by decide), laws_eqEntryS.j8_eq]
  have e3 : laws_eqHintS (([] : List (ByteArray × Int)), []) = some true := by
    rw [laws_eqHintS_eq, iteB_notB, iteB_eqI, if_pos rfl, laws_eqHintS.l4_eq, iteB_ltI, if_neg (by decide), laws_eqHintS.j8_eq]
  have e4 : laws_eqStringS (([] : List ByteArray), []) = some true := by
    rw [laws_eqStringS_eq, iteB_notB, iteB_eqI, if_pos rfl, laws_eqStringS.l4_eq, iteB_ltI, if_neg (by decide), laws_eqStringS.j8_eq]
  have e5 : laws_eqIndex ((l, ([], ([], 0))), (l, ([], ([], 0)))) = some true := by
    rw [laws_eqIndex_eq]
    simp only [eqFieldS_ok l hn, e1, e2, bindO_some', iteB_notB, iteB_t, iteB_eqI, if_true]
  rw [laws_eqServer_eq]
  simp only [e5, e3, e4, bindO_some', iteB_notB, iteB_t]

theorem markServer_new (l : FLs) (h : l.length ≤ 100000000) : laws_markServer (((l, ([], ([], 0))), ([], [])), 1) = some (1 + 3 * (l.length : Int), mkF 1 l) := by
  have e1 : ∀ k, laws_markRowS (([] : List (Int × (ByteArray × List (ByteArray × ByteArray)))), k) = some k := fun k => by
    rw [laws_markRowS_eq, laws_markRowS.l2_eq, iteB_ltI, if_neg (by decide), laws_markRowS.j9_eq]
  have e2 : ∀ k, laws_markEntryS (([] : List (ByteArray × (ByteArray × List (Int × List Int)))), k) = some k := fun k => by
    rw [laws_markEntryS_eq, laws_markEntryS.l2_eq, iteB_ltI, if_neg (by decide), laws_markEntryS.j9_eq]
  have e3 : ∀ k, laws_markHintS (([] : List (ByteArray × Int)), k) = some k := fun k => by
    rw [laws_markHintS_eq, laws_markHintS.l2_eq, iteB_ltI, if_neg (by decide), laws_markHintS.j8_eq]
  have e4 : ∀ k, laws_markStringS (([] : List ByteArray), k) = some k := fun k => by
    rw [laws_markStringS_eq, laws_markStringS.l2_eq, iteB_ltI, if_neg (by decide), laws_markStringS.j6_eq]
  rw [laws_markServer_eq]
  simp only
  rw [laws_markIndex_eq]
  simp only [markF_ok l h, e1, e2, e3, e4, bindO_some']

theorem heldServer_new (l : FLs) (h : l.length ≤ 100000000) : laws_heldServer (((mkF 1 l, ([], ([], 0))), ([], [])), 1) = some (1 + 3 * (l.length : Int)) := by
  have hk : ¬ (1 + 3 * (l.length : Int)) < 0 := by omega
  have e1 : ∀ k, laws_heldRowS (([] : List (Int × (ByteArray × List (ByteArray × ByteArray)))), k) = some k := fun k => by
    rw [laws_heldRowS_eq, laws_heldRowS.l2_eq, iteB_ltI, if_neg (by decide), laws_heldRowS.j13_eq]
  have e2 : ∀ k, laws_heldEntryS (([] : List (ByteArray × (ByteArray × List (Int × List Int)))), k) = some k := fun k => by
    rw [laws_heldEntryS_eq, laws_heldEntryS.l2_eq, iteB_ltI, if_neg (by decide), laws_heldEntryS.j13_eq]
  have e3 : ∀ k, laws_heldHintS (([] : List (ByteArray × Int)), k) = some k := fun k => by
    rw [laws_heldHintS_eq, laws_heldHintS.l2_eq, iteB_ltI, if_neg (by decide), laws_heldHintS.j10_eq]
  have e4 : ∀ k, laws_heldStringS (([] : List ByteArray), k) = some k := fun k => by
    rw [laws_heldStringS_eq, laws_heldStringS.l2_eq, iteB_ltI, if_neg (by decide), laws_heldStringS.j7_eq]
  rw [laws_heldServer_eq]
  simp only
  rw [laws_heldIndex_eq]
  simp only [heldF_ok l h, e1, e2, e3, e4, bindO_some', iteB_ltI, hk, if_false]

def madeF (l : FLs) : FLs := if fieldsB l = true then l else []

theorem sNew_ok (l : FLs) (hl : l.length ≤ 1048576) (hs : ∀ f ∈ l, f.1.size ≤ 1048576) : spec_ServerNew l = some (newS (madeF l), fieldsB l) := by
  rw [spec_ServerNew_eq, spec_IndexNew_eq, sFields_ok l hl hs, bindO_some', iteB_notB]
  unfold madeF newS
  cases fieldsB l with
  | false => rfl
  | true =>
    rw [iteB_t, iteB_room, if_pos (by rw [roomMax_eq]; simp; omega)]
    rfl

theorem iNew_ok (l : FLs) (hl : l.length ≤ 1048576) (hs : ∀ f ∈ l, f.1.size ≤ 1048576) : impl_ServerNew l = some (newS (madeF l), fieldsB l) := by
  rw [impl_ServerNew_eq, impl_IndexNew_eq, iFields_ok l hl hs, bindO_some', iteB_notB]
  unfold madeF newS
  cases fieldsB l with
  | false => rfl
  | true =>
    rw [iteB_t, iteB_room, if_pos (by rw [roomMax_eq]; simp; omega)]
    rfl

theorem eqBo_self (b : Bool) : eqBo b b = true := by cases b <;> rfl

theorem exactServerNew (l : FLs) (hg : ∀ x ∈ l, x.1.size ≤ 9223372036854775807) (hn : l.length ≤ 9223372036854775807) : laws_FnExactServerNew l = some true := by
  obtain ⟨v, h1, h2⟩ := szFieldS_ok l hg hn
  rw [laws_FnExactServerNew_eq, h1, bindO_some', iteB_ltI]
  by_cases hv : v < 0
  · rw [if_pos hv]
  · obtain ⟨hl, hs⟩ := h2 (by omega)
    have hm : (madeF l).length ≤ 1048576 := by
      unfold madeF
      split
      · exact hl
      · exact Nat.zero_le _
    have hp : ¬ (1 + 3 * ((l.length : Nat) : Int) < 0) := by omega
    have hp2 : ¬ (1 + 3 * (((madeF l).length : Nat) : Int) < 0) := by omega
    rw [if_neg hv]
    simp only [toFieldS_ok l hl, bindO_some', sNew_ok l hl hs, iNew_ok l hl hs, newS, eqServer_new (madeF l) hm, eqFieldS_ok l hl, eqBo_self, iteB_notB, iteB_t, markF_ok l (by omega), markServer_new (madeF l) (by omega),
      heldServer_new (madeF l) (by omega), iteB_ltI, hp, hp2, if_false, iteB_eqI, if_true]

theorem exactServerNew' (l : FLs) (hg : Good' (.sl (.pr .str (.pr (.int .i64) (.int .i64)))) l) : laws_FnExactServerNew l = some true := by
  obtain ⟨h1, h2⟩ := hg
  have hm : maxLen = 9223372036854775807 := by decide
  rw [hm] at h1
  refine exactServerNew l (fun x hx => ?_) h1
  have h3 : x.1.size ≤ maxLen := (h2 x hx).1
  rw [hm] at h3; exact h3
end Go.E


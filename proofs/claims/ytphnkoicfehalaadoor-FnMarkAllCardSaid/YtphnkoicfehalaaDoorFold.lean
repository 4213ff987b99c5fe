/- A contract of impl.Fold: A to Z become small, all other bytes stay. By hand: its row of bytes bears a conversion's mark. -/
import Derived.Test.YtphnkoicfehalaaDoorProg
import Derived.Test.YtphnkoicfehalaaDoorWMore
import Derived.Test.YtphnkoicfehalaaDoorEv
import Derived.WalkKit
import Derived.Deep.LoopGhost
import Derived.Lib.ConvBytes
import Derived.Lib.LazyBuf
import Derived.Lib.Hide
import Derived.Outline
namespace Go.Proofs.YtphnkoicfehalaaDoor.X
open Go.RowKit Go.Proofs.YtphnkoicfehalaaDoorW.PrintWords Go.Proofs.YtphnkoicfehalaaDoorW.PrintLast Go.Proofs.YtphnkoicfehalaaDoor.T
set_option linter.unusedVariables false
set_option linter.unusedSimpArgs false

/-- A byte as a small letter. -/
def lowB (b : UInt8) : UInt8 := if 65 ≤ b.toNat ∧ b.toNat ≤ 90 then b + 32 else b
/-- A text as small letters. -/
def foldS (s : ByteArray) : ByteArray := ⟨((bs s).map lowB).toArray⟩
theorem bs_foldS (s : ByteArray) : bs (foldS s) = (bs s).map lowB := bs_mk _
theorem foldS_size (s : ByteArray) : (foldS s).size = s.size := by rw [← bs_length, bs_foldS, List.length_map, bs_length]
theorem upper_yes (b : Int) (w : World) (h1 : 65 ≤ b) (h2 : b ≤ 90) : Calls Tryd.prog 54 #[.int .u8 b] w fun e w' => e = .returned (.bool true) ∧ w = w' := by
  have c1 : decide (65 ≤ b) = true := decide_eq_true h1
  have c2 : decide (b ≤ 90) = true := decide_eq_true h2
  go_enter Tryd.func54, Tryd.ntmps54
  go_wp2
  go_ret
  exact ⟨rfl, rfl⟩
theorem upper_no (b : Int) (w : World) (h : ¬ (65 ≤ b ∧ b ≤ 90)) : Calls Tryd.prog 54 #[.int .u8 b] w fun e w' => e = .returned (.bool false) ∧ w = w' := by
  by_cases h1 : 65 ≤ b
  · have c1 : decide (65 ≤ b) = true := decide_eq_true h1
    have c2 : decide (b ≤ 90) = false := decide_eq_false (by omega)
    clear h h1
    go_enter Tryd.func54, Tryd.ntmps54
    go_wp2
    go_ret
    exact ⟨rfl, rfl⟩
  · have c1 : decide (65 ≤ b) = false := decide_eq_false h1
    clear h h1
    go_enter Tryd.func54, Tryd.ntmps54
    go_wp2
    go_ret
    exact ⟨rfl, rfl⟩

/-- The bytes when k of them are turned. -/
def upToK (s : ByteArray) (k : Nat) : List UInt8 := ((bs s).take k).map lowB ++ (bs s).drop k
theorem upToK_length (s : ByteArray) (k : Nat) : (upToK s k).length = s.size := by
  unfold upToK; rw [List.length_append, List.length_map, List.length_take, List.length_drop, bs_length]; omega
theorem upToK_zero (s : ByteArray) : upToK s 0 = bs s := by simp [upToK]
theorem upToK_all (s : ByteArray) : upToK s s.size = (bs s).map lowB := by
  unfold upToK; rw [List.take_of_length_le (by rw [bs_length]; omega), List.drop_of_length_le (by rw [bs_length]; omega), List.append_nil]
theorem upToK_at (s : ByteArray) (k : Nat) (h : k < (bs s).length) : (upToK s k)[k]'(by rw [upToK_length, ← bs_length]; exact h) = (bs s)[k] := by
  unfold upToK
  rw [List.getElem_append_right (by rw [List.length_map, List.length_take]; omega)]
  simp only [List.length_map, List.length_take, List.getElem_drop]
  congr 1; omega
theorem upToK_succ (s : ByteArray) (k : Nat) (h : k < (bs s).length) : upToK s (k + 1) = (upToK s k).set k (lowB ((bs s)[k])) := by
  unfold upToK
  rw [List.take_succ_eq_append_getElem h, List.map_append, List.set_append_right _ _ (by rw [List.length_map, List.length_take]; omega), List.length_map, List.length_take, show k - min k (bs s).length = 0 from by omega, List.drop_eq_getElem_cons h, List.set_cons_zero, List.append_assoc]
  rfl
/-- What holds at the loop's head. -/
def At (w W : World) (s : ByteArray) (k : Nat) : Prop :=
  (∀ j, (h : j < (upToK s k).length) → W.cell? ⟨w.heap.size, j, none⟩ = some (.int .u8 ((upToK s k)[j].toNat : Int))) ∧ (∀ j, j < s.size → W.frozen? ⟨w.heap.size, j, none⟩ = false) ∧ Below w.heap.size w W
theorem at_start (w : World) (e : Nat) (s : ByteArray) : At w (Lib.bytesWorld w e s) s 0 := by
  refine ⟨fun j h => ?_, fun j h => ?_, bytes_below (Below.refl _ _) (Nat.le_refl _) e s⟩
  · have h' : j < s.size := by rw [upToK_length] at h; exact h
    rw [Lib.bytesWorld_cell w e s j h']
    simp only [upToK_zero]
    have h2 : j < s.data.toList.length := by rw [data_length]; exact h'
    rw [List.getD_eq_getElem?_getD, List.getElem?_eq_getElem h2]
    rfl
  · have hz : s.size ≤ (Lib.bytesCells w e s).size := by
      unfold Lib.bytesCells; rw [Array.size_append, Array.size_map]; show s.size ≤ s.data.size + _; exact Nat.le_add_right _ _
    simp [World.frozen?, Lib.bytesWorld_at_new]
    omega
theorem at_keep {w W : World} {s : ByteArray} {k : Nat} (h : At w W s k) (hk : k < (bs s).length) (hb : lowB ((bs s)[k]) = (bs s)[k]) : At w W s (k + 1) := by
  have e : upToK s (k + 1) = upToK s k := by
    rw [upToK_succ s k hk, hb, ← upToK_at s k hk, List.set_getElem_self]
  unfold At at *
  rw [e]; exact h
theorem at_turn {w W : World} {s : ByteArray} {k : Nat} (h : At w W s k) (hk : k < (bs s).length) : At w (W.setCell ⟨w.heap.size, k, none⟩ (.int .u8 ((lowB ((bs s)[k])).toNat : Int))) s (k + 1) := by
  obtain ⟨h1, h2, h3⟩ := h
  have hz := upToK_length s k
  have hl := bs_length s
  refine ⟨fun j hj => ?_, fun j hj => by rw [World.frozen?_setCell]; exact h2 j hj, h3.setCell (Nat.le_refl _) _⟩
  have hj' : j < (upToK s k).length := by rw [upToK_length] at hj ⊢; exact hj
  by_cases e : k = j
  · subst e
    rw [World.cell?_setCell_same _ _ _ (h1 k hj')]
    simp only [upToK_succ s k hk, List.getElem_set_self]
  · rw [World.cell?_setCell_other _ _ _ _ (by simp [e]), h1 j hj']
    simp only [upToK_succ s k hk, List.getElem_set_ne e]
theorem lowB_int (b : UInt8) (h1 : 65 ≤ b.toNat) (h2 : b.toNat ≤ 90) : ((lowB b).toNat : Int) = (b.toNat : Int) + 97 - 65 := by
  unfold lowB; rw [if_pos ⟨h1, h2⟩, UInt8.toNat_add, show UInt8.toNat 32 = 32 from rfl]; omega

def impl_Fold.f (a0 : ByteArray) : Option ByteArray := if a0.size ≤ 1000000000000 then some (foldS a0) else none
set_option maxHeartbeats 1000000 in
theorem fold_any (s : ByteArray) (w : World) (hs : s.size ≤ 1000000000000) : Calls Tryd.prog 38 #[.string s] w fun e w' => e = .returned (.string (foldS s)) ∧ Below w.heap.size w w' := by
  have kb := fun W => print_bytes (P := Tryd.prog) 9 30 5 Tryd.underlying9 Tryd.underlying30 Tryd.underlying5 s W
  go_enter Tryd.func38, Tryd.ntmps38
  go_wp2
  have hst := Lib.hid (at_start w 5 s)
  generalize Lib.bytesWorld w 5 s = w1 at *
  generalize grownCap w s.size 0 5 = cap at *
  clear kb
  go_loopw [10] (fun i W => ∃ k : Nat, k ≤ s.size ∧ i = .int .i64 k ∧ Hid (At w W s k)) (fun i _ => s.size - (intOf i).toNat)
  case atStart => exact ⟨0, Nat.zero_le _, rfl, hst⟩
  case round =>
    obtain ⟨k, hk, rfl, hat⟩ := hrel
    clear hst
    by_cases hlt : k < s.size
    · have hkb : k < (bs s).length := by rw [bs_length]; exact hlt
      have hc : wr.cell? ⟨w.heap.size, k, none⟩ = some (.int .u8 ((bs s)[k].toNat : Int)) := by
        have := hat.out.1 k (by rw [upToK_length]; exact hlt)
        rw [upToK_at s k hkb] at this; exact this
      have hf : wr.frozen? ⟨w.heap.size, k, none⟩ = false := hat.out.2.1 k hlt
      have hr := (bs s)[k].toNat_lt
      by_cases hu : 65 ≤ (bs s)[k].toNat ∧ (bs s)[k].toNat ≤ 90
      · have h1 := hu.1
        have h2 := hu.2
        have hturn := Lib.hid (at_turn hat.out hkb)
        rw [lowB_int _ h1 h2] at hturn
        generalize (bs s)[k].toNat = c at *
        clear hu hat hkb
        go_wp2_with (go_at_call 54; refine (upper_yes _ _ (by omega) (by omega)).mono ?_; rintro e w' ⟨rfl, rfl⟩)
        go_roundw
        case rel => exact ⟨k + 1, by omega, by go_num, hturn⟩
        case measure => simp [intOf]; omega
      · have hkeep := Lib.hid (at_keep hat.out hkb (by unfold lowB; rw [if_neg hu]))
        have hn : ¬ (65 ≤ ((bs s)[k].toNat : Int) ∧ ((bs s)[k].toNat : Int) ≤ 90) := by omega
        have HN := Lib.hid hn
        generalize (bs s)[k].toNat = c at *
        clear hu hat hn hkb
        go_wp2_with (go_at_call 54; refine (upper_no _ _ HN.out).mono ?_; rintro e w' ⟨rfl, rfl⟩)
        go_roundw
        case rel => exact ⟨k + 1, by omega, by go_num, hkeep⟩
        case measure => simp [intOf]; omega
    · obtain rfl : k = s.size := by omega
      have hcv : ∀ i, i < s.size → wr.cell? ⟨w.heap.size, i, none⟩ = some (.int .u8 ((((bs s).map lowB).map fun b => (b.toNat : Int)).getD i 0)) := by
        intro i hi
        have h2 := hat.out.1 i (by rw [upToK_length]; exact hi)
        simp only [upToK_all] at h2
        rw [h2, List.getD_eq_getElem?_getD, List.getElem?_eq_getElem (by simpa [bs_length] using hi)]
        simp
      have hconv := run_convert_bytes_arg wr 30 5 Tryd.underlying30 Tryd.underlying5 w.heap.size 0 s.size cap (((bs s).map lowB).map fun b => (b.toNat : Int)) (by simp [bs_length]) (by simpa using hcv) 9 Tryd.underlying9
      rw [Lib.Lz.strOfNums_map] at hconv
      have hB := Lib.hid hat.out.2.2
      clear hcv hat
      go_wp2
      go_ret
      exact ⟨rfl, hB.out⟩
theorem impl_Fold.calls (a0 : ByteArray) (r : ByteArray) (w : World) (h : impl_Fold.f a0 = some r) :
    Calls Tryd.prog 38 #[.string a0] w fun e w' => e = .returned (.string r) ∧ Below w.heap.size w w' := by
  unfold impl_Fold.f at h
  by_cases c : a0.size ≤ 1000000000000
  · rw [if_pos c] at h
    obtain rfl := Option.some.inj h
    exact fold_any a0 w c
  · rw [if_neg c] at h; cases h
end Go.Proofs.YtphnkoicfehalaaDoor.X

/- Contracts of slices.Contains at texts and of impl.Stem, by hand; what the list of stop words holds goes along as a fact on the world. -/
import Derived.Test.YtphnkoicfehalaaDoorFold
namespace Go.Proofs.YtphnkoicfehalaaDoor.X
open Go.RowKit Go.Proofs.YtphnkoicfehalaaDoorW.PrintWords Go.Proofs.YtphnkoicfehalaaDoorW.PrintLast Go.Proofs.YtphnkoicfehalaaDoor.T
set_option linter.unusedVariables false
set_option linter.unusedSimpArgs false

theorem rdOf_nat (l : List ByteArray) (k : Nat) (h : k < l.length) : rdOf ByteArray.empty l (k : Int) = l[k] := by
  unfold rdOf; rw [Int.toNat_natCast, List.getD_eq_getElem?_getD, List.getElem?_eq_getElem h]; rfl
/-- A number that is from 0 on just if the text is one of the list. -/
def Found (l : List ByteArray) (v : ByteArray) (w : World) (e : Ending) (w' : World) : Prop := ∃ n : Int, e = .returned (.int .i64 n) ∧ (0 ≤ n ↔ v ∈ l) ∧ -1 ≤ n ∧ w = w'
theorem toList_beq (a b : ByteArray) : (a.toList == b.toList) = decide (a = b) := by
  rw [toList_bs, toList_bs, Bool.eq_iff_iff, beq_iff_eq, decide_eq_true_iff]
  exact ⟨bs_inj, fun h => by rw [h]⟩
set_option maxHeartbeats 1000000 in
theorem index_any (A : Option Addr) (c : Nat) (l : List ByteArray) (v : ByteArray) (w : World) (hr : Kd.C Kd.string w A l.length l) (hl : l.length ≤ 1000000000000) :
    Calls Tryd.prog 55 #[.slice A l.length c, .string v] w (Found l v w) := by
  go_enter Tryd.func55, Tryd.ntmps55
  go_wp2
  go_loop [8] (fun i => ∃ k : Nat, k ≤ l.length ∧ i = .int .i64 k ∧ Hid (∀ j, (h : j < l.length) → j < k → l[j] ≠ v)) (fun i => l.length - (intOf i).toNat)
  case atStart => exact ⟨0, Nat.zero_le _, rfl, Lib.hid (fun j _ h => by omega)⟩
  case round =>
    obtain ⟨k, hk, rfl, hn⟩ := hrel
    by_cases hlt : k < l.length
    · obtain ⟨ad, e, hx⟩ := Kd.at_string hr (k : Int) (by omega) (by omega)
      cases e
      rw [rdOf_nat l k hlt, Int.toNat_natCast] at hx
      have hq := toList_beq v l[k]
      by_cases he : v = l[k]
      · rw [decide_eq_true he] at hq
        have hm : v ∈ l := by rw [he]; exact List.getElem_mem _
        have HM := Lib.hid hm
        clear he hn hm hr
        generalize l[k] = x at *
        go_wp2
        go_ret
        exact ⟨(k : Int), rfl, ⟨fun _ => HM.out, fun _ => by omega⟩, by omega, rfl⟩
      · rw [decide_eq_false he] at hq
        have hn2 : Hid (∀ j, (h : j < l.length) → j < k + 1 → l[j] ≠ v) := Lib.hid (fun j h hj => by
          by_cases e : j = k
          · subst e; exact fun h => he h.symm
          · exact hn.out j h (by omega))
        clear he hn hr
        generalize l[k] = x at *
        go_wp2
        go_round
        case rel => exact ⟨k + 1, by omega, by go_num, hn2⟩
        case measure => simp [intOf]; omega
    · have hno : v ∉ l := fun hm => by
        obtain ⟨j, hj, e⟩ := List.getElem_of_mem hm
        exact hn.out j hj (by omega) e
      have HN := Lib.hid hno
      clear hn hno hr
      go_wp2
      go_ret
      exact ⟨-1, rfl, ⟨fun h => by omega, fun h => absurd h HN.out⟩, by omega, rfl⟩
/-- Is the text one of the list? -/
def hasS (l : List ByteArray) (v : ByteArray) : Bool := (l.map bs).contains (bs v)
theorem hasS_iff (l : List ByteArray) (v : ByteArray) : hasS l v = true ↔ v ∈ l := by
  unfold hasS
  rw [List.contains_iff_mem, List.mem_map]
  exact ⟨fun ⟨a, h, e⟩ => bs_inj e ▸ h, fun h => ⟨v, h, rfl⟩⟩
def slices_Contains_string_string.f (l0 : List ByteArray) (a1 : ByteArray) : Option Bool := if l0.length ≤ 1000000000000 then some (hasS l0 a1) else none
theorem contains_any (A : Option Addr) (c : Nat) (l : List ByteArray) (v : ByteArray) (w : World) (hr : Kd.C Kd.string w A l.length l) (hl : l.length ≤ 1000000000000) :
    Calls Tryd.prog 39 #[.slice A l.length c, .string v] w fun e w' => e = .returned (.bool (hasS l v)) ∧ w = w' := by
  go_enter Tryd.func39, Tryd.ntmps39
  go_wp2_with fail
  refine (index_any A c l v _ hr hl).mono ?_
  rintro e w' ⟨n, rfl, h, h0, rfl⟩
  have e2 : hasS l v = decide (0 ≤ n) := by rw [Bool.eq_iff_iff, hasS_iff, decide_eq_true_iff]; exact h.symm
  have E2 := Lib.hid e2
  clear h e2
  go_wp2
  go_ret
  exact ⟨by rw [E2.out]; rfl, rfl⟩
theorem slices_Contains_string_string.calls (A0 : Option Addr) (c0 : Nat) (l0 : List ByteArray) (a1 : ByteArray) (r : Bool) (w : World) (hr0 : Kd.C Kd.string w A0 l0.length l0) (hc0 : l0.length ≤ c0) (h : slices_Contains_string_string.f l0 a1 = some r) :
    Calls Tryd.prog 39 #[.slice A0 l0.length c0, .string a1] w fun e w' => e = .returned (.bool r) ∧ Drawn0 w w' := by
  unfold slices_Contains_string_string.f at h
  by_cases c : l0.length ≤ 1000000000000
  · rw [if_pos c] at h
    obtain rfl := Option.some.inj h
    exact (contains_any A0 c0 l0 a1 w hr0 c).mono fun e w' ⟨h1, h2⟩ => ⟨h1, h2 ▸ Drawn0.refl w⟩
  · rw [if_neg c] at h; cases h

/-- The stop words. -/
def stopsL : List ByteArray := [⟨#[97]⟩, ⟨#[97, 110]⟩, ⟨#[97, 110, 100]⟩, ⟨#[111, 102]⟩, ⟨#[116, 104, 101]⟩, ⟨#[116, 111]⟩]
/-- WHAT IS HANDED ALONG: the package's list of stop words lies in its variable. -/
def GLOB (W : World) : Prop := ∃ A c, W.cell? ⟨0, 0, none⟩ = some (.slice A 6 c) ∧ 6 ≤ c ∧ Kd.C Kd.string W A 6 stopsL
theorem GLOB_below {W W1 : World} (h : GLOB W) (hb : Below W.heap.size W W1) : GLOB W1 := by
  obtain ⟨A, c, h1, h2, h3⟩ := h
  exact ⟨A, c, by rw [hb.cell (World.block_lt_of_cell? _ _ h1)]; exact h1, h2, Kd.C_below h3 hb⟩
/-- What a word is looked for as. -/
def stemC (s : List UInt8) : List UInt8 :=
  let w := (s.map lowB).take 12
  let w := if 3 < w.length ∧ w.getD (w.length - 1) 0 = 115 ∧ w.getD (w.length - 2) 0 ≠ 115 then w.take (w.length - 1) else w
  if w ∈ stopsL.map bs then [] else w
def stemS (s : ByteArray) : ByteArray := ⟨(stemC (bs s)).toArray⟩
theorem bs_stemS (s : ByteArray) : bs (stemS s) = stemC (bs s) := bs_mk _
def impl_Stem.f (a0 : ByteArray) : Option ByteArray := if a0.size ≤ 1000000000000 then some (stemS a0) else none
end Go.Proofs.YtphnkoicfehalaaDoor.X

/- Small words for the rounds of printed functions: from some number of rounds on they answer so. -/
import Derived.Test.YtphnkoicfehalaaDoorWMore
import Derived.Laws.BitsLemmas
namespace Go.Proofs.YtphnkoicfehalaaDoor.T
open Go.RowKit Go.Proofs.YtphnkoicfehalaaDoorW.PrintWords Go.Proofs.YtphnkoicfehalaaDoorW.PrintLast
set_option linter.unusedVariables false
set_option linter.unusedSimpArgs false

variable {α β γ : Type}
theorem ev_succ {g : Nat → Option α} {r : α} (h : Ev (fun k => g (k + 1)) r) : Ev g r := by
  obtain ⟨K, h⟩ := h
  refine ⟨K + 1, fun n hn => ?_⟩
  obtain ⟨m, rfl⟩ : ∃ m, n = m + 1 := ⟨n - 1, by omega⟩
  exact h m (by omega)
theorem ev_some {r : α} : Ev (fun _ => some r) r := Ev.now r
theorem ev_eq {r s : α} (h : r = s) : Ev (fun _ => some r) s := h ▸ Ev.now r
theorem ev_pos {c : Prop} [Decidable c] {a b : Nat → Option α} {r : α} (h : c) (e : Ev a r) : Ev (fun k => if c then a k else b k) r := by simpa only [if_pos h] using e
theorem ev_neg {c : Prop} [Decidable c] {a b : Nat → Option α} {r : α} (h : ¬ c) (e : Ev b r) : Ev (fun k => if c then a k else b k) r := by simpa only [if_neg h] using e
theorem ev_ite {c : Prop} [Decidable c] {a b : Nat → Option α} {r : α} (h1 : c → Ev a r) (h2 : ¬ c → Ev b r) : Ev (fun k => if c then a k else b k) r := by
  by_cases h : c
  · exact ev_pos h (h1 h)
  · exact ev_neg h (h2 h)
theorem ev_bind {g : Nat → Option α} {f : Nat → α → Option β} {a : α} {r : β} (h : Ev g a) (k : Ev (fun n => f n a) r) : Ev (fun n => (g n).bind (f n)) r := Ev.bind h k
theorem ev_bind0 {o : Option α} {f : Nat → α → Option β} {a : α} {r : β} (h : o = some a) (k : Ev (fun n => f n a) r) : Ev (fun n => o.bind (f n)) r := by subst h; exact k
theorem ev_congr {g f : Nat → Option α} {r : α} (h : ∀ k, g k = f k) (k : Ev f r) : Ev g r := Ev.congr h k
theorem ev_to {g : Nat → Option α} {r s : α} (h : Ev g r) (e : r = s) : Ev g s := e ▸ h
theorem ev_uniq {g : Nat → Option α} {r s : α} (h : Ev g r) (h' : Ev g s) : r = s := by
  obtain ⟨K, h⟩ := h
  obtain ⟨K', h'⟩ := h'
  have a := h (max K K') (by omega)
  have b := h' (max K K') (by omega)
  rw [a] at b; exact Option.some.inj b

theorem w64 (n : Int) (h : -9223372036854775808 ≤ n ∧ n ≤ 9223372036854775807) : wrap64 n = n := by unfold wrap64; omega
theorem w64' (n : Int) (h1 : -9223372036854775808 ≤ n) (h2 : n ≤ 9223372036854775807) : wrap64 n = n := w64 n ⟨h1, h2⟩

/-! ### bytes -/
/-- A text's bytes. -/
def bs (s : ByteArray) : List UInt8 := s.data.toList
theorem bs_length (s : ByteArray) : (bs s).length = s.size := by unfold bs; rw [Array.length_toList]; rfl
theorem bt_bs (s : ByteArray) (i : Nat) (h : i < (bs s).length) : bt s (i : Int) = ((bs s)[i].toNat : Int) := by
  have h' : i < s.size := by rw [bs_length] at h; exact h
  unfold bt bs
  rw [dif_pos (by simpa using h')]
  simp only [Int.toNat_natCast]
  rfl
theorem bs_mk (l : List UInt8) : bs ⟨l.toArray⟩ = l := by unfold bs; simp
theorem bs_append (a b : ByteArray) : bs (a ++ b) = bs a ++ bs b := by unfold bs; simp [ByteArray.data_append]
theorem bs_inj {a b : ByteArray} (h : bs a = bs b) : a = b := by
  cases a; cases b; unfold bs at h; simp only [ByteArray.mk.injEq]; exact Array.toList_inj.1 h
theorem bs_extract (a : ByteArray) (i j : Nat) : bs (a.extract i j) = ((bs a).take j).drop i := by
  unfold bs; rw [ByteArray.data_extract, Array.toList_extract, List.extract_eq_take_drop, List.drop_take]
theorem toList_bs (s : ByteArray) : s.toList = bs s := by
  unfold bs ByteArray.toList
  have key : ∀ (d : Nat) (i : Nat) (r : List UInt8), s.size - i = d → ByteArray.toList.loop s i r = r.reverse ++ s.data.toList.drop i := by
    intro d
    induction d with
    | zero =>
      intro i r hd
      rw [ByteArray.toList.loop, if_neg (by omega), List.drop_of_length_le (by rw [Array.length_toList]; show s.size ≤ i; omega), List.append_nil]
    | succ d ih =>
      intro i r hd
      rw [ByteArray.toList.loop, if_pos (by omega), ih (i + 1) _ (by omega)]
      have h' : i < s.data.toList.length := by rw [Array.length_toList]; show i < s.size; omega
      rw [List.drop_eq_getElem_cons h']
      simp only [List.reverse_cons, List.append_assoc, List.singleton_append]
      congr 2
      have : s.get! i = s.data[i]'(by simpa using h') := by
        show s.data[i]! = _
        rw [getElem!_pos]
      simpa using this
  simpa using key _ 0 [] rfl
theorem size_append (a b : ByteArray) : (a ++ b).size = a.size + b.size := by rw [← bs_length, bs_append, List.length_append, bs_length, bs_length]
theorem size_extract (a : ByteArray) (i j : Nat) (h : i ≤ j) (h' : j ≤ a.size) : (a.extract i j).size = j - i := by
  rw [← bs_length, bs_extract, List.length_drop, List.length_take, bs_length]; omega
theorem size_le_extract (a : ByteArray) (i j : Nat) : (a.extract i j).size ≤ a.size := by
  rw [← bs_length, bs_extract, List.length_drop, List.length_take, bs_length]; omega

/-! ### rows of numbers -/
theorem rd_nat (l : List Int) (i : Nat) : rd l (i : Int) = l.getD i 0 := by unfold rd; rw [Int.toNat_natCast]
theorem rd_lt (l : List Int) (i : Nat) (h : i < l.length) : rd l (i : Int) = l[i] := by rw [rd_nat, List.getD_eq_getElem?_getD, List.getElem?_eq_getElem h]; rfl

theorem bits_xor_i64 (a b : Int) (ha : 0 ≤ a) (ha' : a < 4611686018427387904) (hb : 0 ≤ b) (hb' : b < 4611686018427387904) : 0 ≤ bits .xor .i64 a b := by
  obtain ⟨m, rfl⟩ := Int.eq_ofNat_of_zero_le ha
  obtain ⟨n, rfl⟩ := Int.eq_ofNat_of_zero_le hb
  have e : 2 ^ IntKind.i64.bits = 18446744073709551616 := by decide
  have h : m ^^^ n < 2 ^ 62 := Nat.xor_lt_two_pow (by omega) (by omega)
  have hm : m % 2 ^ IntKind.i64.bits = m := by rw [e]; omega
  have hn : n % 2 ^ IntKind.i64.bits = n := by rw [e]; omega
  simp only [bits, BitVec.ofInt_natCast, BitVec.toNat_xor, BitVec.toNat_ofNat, hm, hn]
  rw [IntKind.wrap_i64]; omega

/-! ### a reader that is drawn from -/
/-- From place p on, the reader gives a value with P, and goes on by at most c. -/
def Dr (g : Nat → Option (α × Int)) (p c : Int) (P : α → Prop) : Prop := ∃ v p', Ev g (v, p') ∧ p ≤ p' ∧ p' ≤ p + c ∧ P v

end Go.Proofs.YtphnkoicfehalaaDoor.T

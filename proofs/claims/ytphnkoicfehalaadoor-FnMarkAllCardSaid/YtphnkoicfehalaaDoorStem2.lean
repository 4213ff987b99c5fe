/- A contract of impl.Stem, by hand. -/
import Derived.Test.YtphnkoicfehalaaDoorStem
import Derived.BigQuiet
import Derived.Deep.QuietTactic
import Derived.WalkSpells
namespace Go.Proofs.YtphnkoicfehalaaDoor.X
open Go.RowKit Go.Proofs.YtphnkoicfehalaaDoorW.PrintWords Go.Proofs.YtphnkoicfehalaaDoorW.PrintLast Go.Proofs.YtphnkoicfehalaaDoor.T
set_option linter.unusedVariables false
set_option linter.unusedSimpArgs false
/-- The first twelve bytes, as small letters. -/
def headC (s : List UInt8) : List UInt8 := (s.map lowB).take 12
/-- Does an s go? -/
def CutS (l : List UInt8) : Prop := 3 < l.length ∧ l.getD (l.length - 1) 0 = 115 ∧ l.getD (l.length - 2) 0 ≠ 115
theorem stemC_yes (s : List UInt8) (h : CutS (headC s)) : stemC s = if (headC s).take ((headC s).length - 1) ∈ stopsL.map bs then [] else (headC s).take ((headC s).length - 1) := by
  unfold stemC CutS headC at *
  simp only [if_pos h]
theorem stemC_no (s : List UInt8) (h : ¬ CutS (headC s)) : stemC s = if headC s ∈ stopsL.map bs then [] else headC s := by
  unfold stemC CutS headC at *
  simp only [if_neg h]
theorem hasS_bs (G : ByteArray) : hasS stopsL G = true ↔ bs G ∈ stopsL.map bs := by unfold hasS; rw [List.contains_iff_mem]
theorem stem_yes (s G : ByteArray) (h : CutS (headC (bs s))) (hG : bs G = (headC (bs s)).take ((headC (bs s)).length - 1)) : (hasS stopsL G = true → ⟨#[]⟩ = stemS s) ∧ (hasS stopsL G = false → G = stemS s) := by
  have e := stemC_yes (bs s) h
  rw [← hG] at e
  constructor
  · intro c; rw [if_pos ((hasS_bs G).1 c)] at e; exact bs_inj (by rw [bs_stemS, e]; rfl)
  · intro c; rw [if_neg (fun m => by rw [(hasS_bs G).2 m] at c; cases c)] at e; exact bs_inj (by rw [bs_stemS, e])
theorem stem_no (s G : ByteArray) (h : ¬ CutS (headC (bs s))) (hG : bs G = headC (bs s)) : (hasS stopsL G = true → ⟨#[]⟩ = stemS s) ∧ (hasS stopsL G = false → G = stemS s) := by
  have e := stemC_no (bs s) h
  rw [← hG] at e
  constructor
  · intro c; rw [if_pos ((hasS_bs G).1 c)] at e; exact bs_inj (by rw [bs_stemS, e]; rfl)
  · intro c; rw [if_neg (fun m => by rw [(hasS_bs G).2 m] at c; cases c)] at e; exact bs_inj (by rw [bs_stemS, e])
theorem ret_str {a b : ByteArray} (h : a = b) : Ending.returned (.string a) = .returned (.string b) := by rw [h]
theorem at_bs (G : ByteArray) (i : Nat) (h : i < G.size) : G[i]'h = (bs G).getD i 0 := by
  have h' : i < (bs G).length := by rw [bs_length]; exact h
  rw [List.getD_eq_getElem?_getD, List.getElem?_eq_getElem h']
  rfl
set_option maxHeartbeats 2000000 in
theorem stem_any (s : ByteArray) (w : World) (hs : s.size ≤ 1000000000000) (hG : GLOB w) : Calls Tryd.prog 19 #[.string s] w fun e w' => e = .returned (.string (stemS s)) ∧ Below w.heap.size w w' := by
  go_enter Tryd.func19, Tryd.ntmps19
  have HG := Lib.hid hG
  clear hG
  go_wp2_with fail
  refine (fold_any s _ hs).mono ?_
  rintro e w1 ⟨rfl, hb⟩
  have HB := Lib.hid hb
  clear hb
  obtain ⟨A, c, hA, hc, hC⟩ := GLOB_below HG.out HB.out
  clear HG
  have HC := Lib.hid hC
  clear hC
  have hF1 := foldS_size s
  have HF := Lib.hid (bs_foldS s)
  generalize foldS s = F at *
  have hF : F.size ≤ 1000000000000 := by omega
  clear hF1
  obtain ⟨m, hm, hm2⟩ : ∃ m : Nat, (if (12 : Int) < (F.size : Int) then (12 : Int) else (F.size : Int)) = (m : Int) ∧ m = min F.size 12 := ⟨min F.size 12, by split <;> omega, rfl⟩
  have hm1 : m ≤ F.size := by omega
  have hX : bs (F.extract 0 m) = headC (bs s) := by
    rw [bs_extract, List.drop_zero, HF.out]; unfold headC
    have hl : ((bs s).map lowB).length = F.size := by rw [← HF.out, bs_length]
    by_cases h : F.size ≤ 12
    · rw [List.take_of_length_le (by omega), List.take_of_length_le (by omega)]
    · rw [show m = 12 from by omega]
  have hXs : (F.extract 0 m).size = m := by rw [size_extract _ _ _ (by omega) (by omega)]; omega
  have hXl : (headC (bs s)).length = m := by rw [← hX, bs_length, hXs]
  have HM := Lib.hid hm2
  clear hm2
  have fin : ∀ G : ByteArray, (hasS stopsL G = true → ⟨#[]⟩ = stemS s) ∧ (hasS stopsL G = false → G = stemS s) → Hid ((hasS stopsL G = true → ⟨#[]⟩ = stemS s) ∧ (hasS stopsL G = false → G = stemS s)) := fun _ h => Lib.hid h
  have fin_no : ¬ CutS (headC (bs s)) → Hid ((hasS stopsL (F.extract 0 m) = true → ⟨#[]⟩ = stemS s) ∧ (hasS stopsL (F.extract 0 m) = false → F.extract 0 m = stemS s)) := fun h => Lib.hid (stem_no s _ h hX)
  have fin_yes : CutS (headC (bs s)) → Hid ((hasS stopsL ((F.extract 0 m).extract 0 (m - 1)) = true → ⟨#[]⟩ = stemS s) ∧ (hasS stopsL ((F.extract 0 m).extract 0 (m - 1)) = false → (F.extract 0 m).extract 0 (m - 1) = stemS s)) := fun h => Lib.hid (stem_yes s _ h (by rw [bs_extract, List.drop_zero, hX, hXl]))
  by_cases h3 : 3 < m
  · have g1 : ∀ h : m - 1 < (F.extract 0 m).size, (F.extract 0 m)[m - 1]'h = (headC (bs s)).getD (m - 1) 0 := fun h => by rw [at_bs, hX]
    have g2 : ∀ h : m - 2 < (F.extract 0 m).size, (F.extract 0 m)[m - 2]'h = (headC (bs s)).getD (m - 2) 0 := fun h => by rw [at_bs, hX]
    have hcut : CutS (headC (bs s)) ↔ ((headC (bs s)).getD (m - 1) 0).toNat = 115 ∧ ¬ ((headC (bs s)).getD (m - 2) 0).toNat = 115 := by
      unfold CutS
      rw [hXl]
      constructor
      · rintro ⟨_, a, b⟩; exact ⟨by rw [a]; rfl, fun h => b (UInt8.toNat_inj.1 (by rw [h]; rfl))⟩
      · rintro ⟨a, b⟩; exact ⟨h3, UInt8.toNat_inj.1 (by rw [a]; rfl), fun h => b (by rw [h]; rfl)⟩
    generalize (headC (bs s)).getD (m - 1) 0 = b1 at *
    generalize (headC (bs s)).getD (m - 2) 0 = b2 at *
    by_cases e1 : b1.toNat = 115
    · have d1 : ((b1.toNat : Int) == 115) = true := beq_iff_eq.2 (by omega)
      by_cases e2 : b2.toNat = 115
      · have d2 : ((b2.toNat : Int) != 115) = false := bne_eq_false_iff_eq.2 (by omega)
        have hfin := fin_no (fun h => (hcut.1 h).2 e2)
        clear fin fin_no fin_yes hcut e1 e2 hX hXl
        go_wp2_with (go_at_call 39; refine (contains_any A c stopsL _ _ HC.out (by decide)).mono ?_; rintro e w' ⟨rfl, rfl⟩)
        · go_ret; exact ⟨ret_str (hfin.out.1 (by assumption)), HB.out⟩
        · go_ret; exact ⟨ret_str (hfin.out.2 (by assumption)), HB.out⟩
      · have d2 : ((b2.toNat : Int) != 115) = true := bne_iff_ne.2 (by omega)
        have hfin := fin_yes (hcut.2 ⟨e1, e2⟩)
        clear fin fin_no fin_yes hcut e1 e2 hX hXl
        go_wp2_with (go_at_call 39; refine (contains_any A c stopsL _ _ HC.out (by decide)).mono ?_; rintro e w' ⟨rfl, rfl⟩)
        · go_ret; exact ⟨ret_str (hfin.out.1 (by assumption)), HB.out⟩
        · go_ret; exact ⟨ret_str (hfin.out.2 (by assumption)), HB.out⟩
    · have d1 : ((b1.toNat : Int) == 115) = false := beq_eq_false_iff_ne.2 (by omega)
      have hfin := fin_no (fun h => e1 (hcut.1 h).1)
      clear fin fin_no fin_yes hcut e1 hX hXl
      go_wp2_with (go_at_call 39; refine (contains_any A c stopsL _ _ HC.out (by decide)).mono ?_; rintro e w' ⟨rfl, rfl⟩)
      · go_ret; exact ⟨ret_str (hfin.out.1 (by assumption)), HB.out⟩
      · go_ret; exact ⟨ret_str (hfin.out.2 (by assumption)), HB.out⟩
  · have hfin := fin_no (fun h => h3 (by rw [← hXl]; exact h.1))
    have d3 : decide (3 < (m : Int)) = false := decide_eq_false (by omega)
    clear fin fin_no fin_yes hX hXl h3
    go_wp2_with (go_at_call 39; refine (contains_any A c stopsL _ _ HC.out (by decide)).mono ?_; rintro e w' ⟨rfl, rfl⟩)
    · go_ret; exact ⟨ret_str (hfin.out.1 (by assumption)), HB.out⟩
    · go_ret; exact ⟨ret_str (hfin.out.2 (by assumption)), HB.out⟩
theorem impl_Stem.calls (a0 : ByteArray) (r : ByteArray) (w : World) (hG : GLOB w) (h : impl_Stem.f a0 = some r) :
    Calls Tryd.prog 19 #[.string a0] w fun e w' => e = .returned (.string r) ∧ Below w.heap.size w w' := by
  unfold impl_Stem.f at h
  by_cases c : a0.size ≤ 1000000000000
  · rw [if_pos c] at h
    obtain rfl := Option.some.inj h
    exact stem_any a0 w c hG
  · rw [if_neg c] at h; cases h
end Go.Proofs.YtphnkoicfehalaaDoor.X

/- A part of the proof: PStat. -/
import Derived.Test.YtjpmjigganoioaaGreatDoorED
import Derived.Lib.ItoaNum
import Derived.Test.YtjpmjigganoioaaGreatDoorGStatB
import Derived.OpenShut
set_option linter.unusedVariables false
noncomputable section
namespace Go.E
open Go Go.Lib
def digs (l:List UInt8):Prop:=∀ c ∈ l,48 <= c.toNat /\ c.toNat <= 57
def valD (acc:Nat) (l:List UInt8):Nat:=l.foldl (fun a c=>a * 10 + (c.toNat - 48)) acc
theorem Zgn (acc:Nat):valD acc [] = acc:=by unfold valD; rw [List.foldl_nil]
theorem Zft (acc:Nat) (c:UInt8) (r:List UInt8):valD acc (c :: r) = valD (acc * 10 + (c.toNat - 48)) r:=by unfold valD; rw [List.foldl_cons]
def figs (l:List UInt8):Prop:=digs l /\ l ≠ [] /\ (1 < l.length -> l.head? ≠ some 48)
theorem valD_append (acc:Nat) (l m:List UInt8):valD acc (l ++ m) = valD (valD acc l) m:=by unfold valD; rw [List.foldl_append]
theorem valD_ge (l:List UInt8) (acc:Nat):acc <= valD acc l:=by
 induction l generalizing acc with
 | nil=>rw [Zgn]; omega
 | cons c r ih=>rw [Zft]; exact Nat.le_trans (by omega) (ih (acc * 10 + (c.toNat - 48)))
theorem valD_pow (l:List UInt8) (acc:Nat):acc * 10 ^ l.length <= valD acc l:=by
 induction l generalizing acc with
 | nil=>rw [Zgn]; simp
 | cons c r ih =>
   rw [Zft]
   refine Nat.le_trans ?_ (ih _)
   rw [List.length_cons,Nat.pow_succ,← Nat.mul_assoc,Nat.mul_right_comm]
   exact Nat.mul_le_mul_right _ (by omega)
theorem valD_lt (l:List UInt8) (acc:Nat) (h:digs l):valD acc l < (acc + 1) * 10 ^ l.length:=by
 induction l generalizing acc with
 | nil=>rw [Zgn]; simp
 | cons c r ih =>
   rw [Zft]
   refine Nat.lt_of_lt_of_le (ih _ (fun x hx=>h x (List.mem_cons_of_mem _ hx))) ?_
   rw [List.length_cons,Nat.pow_succ,Nat.mul_comm (10 ^ r.length) 10,← Nat.mul_assoc]
   have:=h c (List.mem_cons_self ..)
   exact Nat.mul_le_mul_right _ (by omega)
theorem Zer (c:UInt8):UInt8.ofNat c.toNat = c:=by simp
theorem figs_pos {l:List UInt8} (h:figs l) (h1:1 < l.length):1 <= valD 0 l:=by
 obtain ⟨h2,h3,h4⟩:=h
 cases l with
 | nil=>exact absurd rfl h3
 | cons c r =>
   have hc:=h2 c (List.mem_cons_self ..)
   have hne:c.toNat ≠ 48:=fun e=>h4 h1 (by
    simp only [List.head?_cons,Option.some.injEq]
    rw [← Zer c,e]; rfl)
   rw [Zft]
   refine Nat.le_trans ?_ (valD_ge r (0 * 10 + (c.toNat - 48)))
   omega
theorem dec_of_figs:∀ (n:Nat) (l:List UInt8),l.length = n -> figs l -> decDigits (valD 0 l) = l:=by
 intro n
 induction n with
 | zero=>intro l hl h; exact absurd (List.length_eq_zero_iff.1 hl) h.2.1
 | succ n ih =>
   intro l hl h
   obtain ⟨l',c,rfl⟩:∃ l' c,l = l' ++ [c]:=⟨l.dropLast,l.getLast h.2.1,(List.dropLast_concat_getLast h.2.1).symm⟩
   have hc:=h.1 c (by simp)
   rw [valD_append]
   rw [Zft,Zgn]
   by_cases he:l' = []
   · subst he
     rw [Zgn,decDigits_one (by omega),List.nil_append,Nat.zero_mul,Nat.zero_add]
     rw [show 48 + (c.toNat - 48) = c.toNat by omega,Zer]
   · have hl':0 < l'.length:=List.length_pos_iff.2 he
     have hhead:(l' ++ [c]).head? = l'.head?:=by cases l' with | nil=>exact absurd rfl he | cons _ _=>rfl
     have hf':figs l':=⟨fun x hx=>h.1 x (List.mem_append_left _ hx),he,fun _=>by
      have:=h.2.2 (by simp; omega); rwa [hhead] at this⟩
     have hp:1 <= valD 0 l':=by
      by_cases h1:1 < l'.length
      · exact figs_pos hf' h1
      · have hnz:=h.2.2 (by simp; omega)
        rw [hhead] at hnz
        cases l' with
        | nil=>exact absurd rfl he
        | cons d r =>
          have hd:=h.1 d (by simp)
          have hne:d.toNat ≠ 48:=fun e=>hnz (by
           simp only [List.head?_cons,Option.some.injEq]
           rw [← Zer d,e]; rfl)
          rw [Zft]
          refine Nat.le_trans ?_ (valD_ge r (0 * 10 + (d.toNat - 48)))
          omega
     rw [decDigits,dif_neg (by omega),show (valD 0 l' * 10 + (c.toNat - 48)) / 10 = valD 0 l' by omega,show (valD 0 l' * 10 + (c.toNat - 48)) % 10 = c.toNat - 48 by omega,ih l' (by simpa using hl) hf']
     rw [show 48 + (c.toNat - 48) = c.toNat by omega,Zer]
theorem u8_toNat (k:Nat) (h:k < 256):(UInt8.ofNat k).toNat = k:=by
 simp [Nat.mod_eq_of_lt h]
theorem dec_figs (n:Nat):figs (decDigits n) /\ valD 0 (decDigits n) = n /\ (0 < n -> (decDigits n).head? ≠ some 48):=by
 induction n using Nat.strongRecOn with
 | _ n ih =>
   by_cases h:n < 10
   · rw [decDigits_one h]
     have e:=u8_toNat (48 + n) (by omega)
     refine ⟨⟨fun c hc=>?_,by simp,fun h=>by simp at h⟩,?_,fun h0=>?_⟩
     · rw [List.mem_singleton.1 hc,e]; omega
     · rw [Zft,Zgn,e]; omega
     · simp only [List.head?_cons,ne_eq,Option.some.injEq]
       intro hh
       have:=congrArg UInt8.toNat hh
       rw [e] at this
       have:48 + n = 48:=this
       omega
   · rw [decDigits,dif_neg h]
     obtain ⟨⟨i1,i2,i3⟩,i4,i5⟩:=ih (n / 10) (by omega)
     have e:=u8_toNat (48 + n % 10) (by omega)
     have hhead:(decDigits (n / 10) ++ [UInt8.ofNat (48 + n % 10)]).head? = (decDigits (n / 10)).head?:=by
      cases hd:decDigits (n / 10) with
      | nil=>exact absurd hd i2
      | cons _ _=>rfl
     refine ⟨⟨fun c hc=>?_,by simp,fun _=>by rw [hhead]; exact i5 (by omega)⟩,?_,fun _=>by rw [hhead]; exact i5 (by omega)⟩
     · rcases List.mem_append.1 hc with h | h
       · exact i1 c h
       · rw [List.mem_singleton.1 h,e]; omega
     · rw [valD_append,i4]
       rw [Zft,Zgn,e]; omega
theorem parse_digs (l:List UInt8) (acc:Nat) (h:digs l) (hv:valD acc l < 18446744073709551616):parseUint10 acc l = .ok (valD acc l):=by
 induction l generalizing acc with
 | nil=>rw [Zgn]; rfl
 | cons c r ih =>
   have hc:=h c (List.mem_cons_self ..)
   rw [Zft] at hv ⊢
   have hge:acc * 10 + (c.toNat - 48) <= valD (acc * 10 + (c.toNat - 48)) r:=valD_ge r _
   unfold parseUint10
   rw [if_pos hc,if_neg (by omega),if_neg (by omega)]
   exact ih _ (fun x hx=>h x (List.mem_cons_of_mem _ hx)) hv
def Zh5 (l:List UInt8):Option Int:=open Classical in
 if figs l then some (valD 0 l:Int) else match l with
  | c :: r=>if c = 45 /\ figs r /\ 0 < valD 0 r then some (-(valD 0 r:Int)) else none
  | []=>none
theorem Ziw (r:List UInt8):¬ figs (45 :: r):=fun h=>by
 have:=h.1 45 (List.mem_cons_self ..)
 have e:(45:UInt8).toNat = 45:=rfl
 omega
theorem itoa_numOf {l:List UInt8} {n:Int} (h:Zh5 l = some n):itoa n = l:=by
 unfold Zh5 at h
 split at h
 · rename_i hf
   cases h
   unfold itoa
   rw [if_neg (by omega)]
   exact dec_of_figs _ l rfl hf
 · cases l with
   | nil=>cases h
   | cons c r =>
     simp only at h
     split at h
     · rename_i hh
       cases h
       obtain ⟨rfl,hf,h0⟩:=hh
       unfold itoa
       rw [if_pos (by omega),Int.natAbs_neg,Int.natAbs_natCast,dec_of_figs _ r rfl hf]
     · cases h
theorem numOf_itoa (n:Int):Zh5 (itoa n) = some n:=by
 unfold itoa
 split
 · rename_i hn
   obtain ⟨h1,h2,h3⟩:=dec_figs n.natAbs
   unfold Zh5
   rw [if_neg (Ziw _)]
   simp only
   rw [if_pos ⟨rfl,h1,by omega⟩,h2]
   congr 1; omega
 · obtain ⟨h1,h2,h3⟩:=dec_figs n.toNat
   unfold Zh5
   rw [if_pos h1,h2]
   congr 1; omega
theorem atoi_figs {l:List UInt8} (h:figs l) (hv:valD 0 l < 9223372036854775808):atoiAll l = .ok (valD 0 l:Int):=by
 cases l with
 | nil=>exact absurd rfl h.2.1
 | cons c r =>
   have hc:=h.1 c (List.mem_cons_self ..)
   unfold atoiAll
   simp only
   rw [if_neg (by omega)]
   have:parseMag (c :: r) = .ok (valD 0 (c :: r)):=by
    unfold parseMag
    rw [if_neg (by simp)]
    exact parse_digs _ _ h.1 (by omega)
   rw [this]
   simp only
   rw [if_neg (by omega),if_neg (by omega),if_neg (by omega)]
theorem atoi_neg {r:List UInt8} (h:figs r) (hv:valD 0 r < 9223372036854775808):atoiAll (45 :: r) = .ok (-(valD 0 r:Int)):=by
 unfold atoiAll
 have e:(45:UInt8).toNat = 45:=rfl
 simp only [e]
 have:parseMag r = .ok (valD 0 r):=by
  unfold parseMag
  rw [if_neg h.2.1]
  exact parse_digs _ _ h.1 (by omega)
 simp only [or_true,if_true,this,not_true,false_and,if_false,true_and]
 rw [if_neg (by omega)]
theorem atoi_numOf {l:List UInt8} {n:Int} (hb:-9223372036854775808 < n /\ n < 9223372036854775808):(atoiAll l = .ok n /\ itoa n = l) ↔ Zh5 l = some n:=by
 constructor
 · rintro ⟨_,h⟩
   rw [← h]; exact numOf_itoa n
 · intro h
   refine ⟨?_,itoa_numOf h⟩
   unfold Zh5 at h
   split at h
   · rename_i hf
     cases h
     exact atoi_figs hf (by omega)
   · cases l with
     | nil=>cases h
     | cons c r =>
       simp only at h
       split at h
       · rename_i hh
         cases h
         obtain ⟨rfl,hf,h0⟩:=hh
         exact atoi_neg hf (by omega)
       · cases h
theorem Zie {l:List UInt8} (h:figs l):l.length <= 9 ↔ valD 0 l <= 999999999:=by
 constructor
 · intro hl
   have h1:=valD_lt l 0 h.1
   have h2:10 ^ l.length <= 10 ^ 9:=Nat.pow_le_pow_right (by omega) hl
   have h3:(10:Nat) ^ 9 = 1000000000:=rfl
   omega
 · intro hv
   false_or_by_contra
   rename_i hl
   cases l with
   | nil=>simp at hl
   | cons c r =>
     have hc:=h.1 c (List.mem_cons_self ..)
     have hne:c.toNat ≠ 48:=fun e=>h.2.2 (by simp at hl; simp; omega) (by
      simp only [List.head?_cons,Option.some.injEq]
      rw [← Zer c,e]; rfl)
     have h1:=valD_pow r (0 * 10 + (c.toNat - 48))
     have h2:10 ^ 9 <= 10 ^ r.length:=Nat.pow_le_pow_right (by omega) (by simp at hl; omega)
     have h3:(10:Nat) ^ 9 = 1000000000:=rfl
     have h4:1 * 10 ^ r.length <= (0 * 10 + (c.toNat - 48)) * 10 ^ r.length:=Nat.mul_le_mul_right _ (by omega)
     have h5:valD 0 (c :: r) = valD (0 * 10 + (c.toNat - 48)) r:=Zft _ _ _
     omega
end Go.E
namespace Go.E
open Go
def upperB (b:Int):Bool:=decide (65 <= b /\ b <= 90)
def lowerB (b:Int):Bool:=decide (97 <= b /\ b <= 122)
def digitB (b:Int):Bool:=decide (48 <= b /\ b <= 57)
def alnumB (b:Int):Bool:=upperB b || lowerB b || digitB b
def Zfe (b:Int):Int:=if 65 <= b /\ b <= 90 then b + 32 else b
theorem two (a b c d:Int):iteB (leI a b) (some (leI c d)) (some Bool.false) = some (decide (a <= b /\ c <= d)):=by
 rw [Zdh]; unfold leI; by_cases h:a <= b <;> simp [h]
theorem upper_ok (b:Int):Zdo b = some (upperB b):=by rw [impl_upper_eq,two]; rfl
theorem lower_ok (b:Int):Zdq b = some (lowerB b):=by rw [impl_lower_eq,two]; rfl
theorem digit_ok (b:Int):Zdp b = some (digitB b):=by rw [impl_digit_eq,two]; rfl
theorem Zgw (n a b:Int):Zcm (n,(a,b)) = some (decide (a <= n /\ n <= b)):=by rw [impl_within_eq,two]
theorem l1In_ok (n a b:Int):Zdf (n,(a,b)) = some (decide (a <= n /\ n <= b)):=by rw [spec_l1In_eq,two]
theorem wordByte_ok (b:Int):Zc6 b = some (alnumB b):=by
 rw [impl_wordByte_eq,upper_ok,lower_ok,digit_ok]
 simp only [Zac,alnumB]
 cases upperB b <;> cases lowerB b <;> rfl
theorem Zf9 {l:Int -> Option Bool} {n:Nat} {p:Nat -> Bool} {fin:Bool} (h:∀ i:Nat,i < n -> l i = if p i = true then l ((i + 1:Nat):Int) else some false) (h':l n = some fin) :
  ∀ k i:Nat,i + k = n -> l i = some (((List.range' i k).all p) && fin)
 | 0,i,e=>by simp at e; subst e; simpa using h'
 | k + 1,i,e=>by
   rw [h i (by omega),List.range'_succ,List.all_cons]
   cases hp:p i with
   | true=>rw [if_pos rfl,Zf9 h h' k (i + 1) (by omega)]; simp
   | false=>simp
def Zfi (s:ByteArray) (i:Nat):Int:=((s.data[i]?).map fun b=>(b.toNat:Int)).getD 0
theorem Zij (s:ByteArray) (i:Nat) (h:i < s.size):atS s i = some (Zfi s i):=by
 have h':i < s.data.size:=h
 unfold atS Zfi
 rw [if_pos (by omega)]
 simp [Array.getElem?_eq_getElem h']
abbrev FT:=ByteArray × (Int × Int)
abbrev FLs:=List FT
theorem mid {α:Type} {A B:List α} {x:α}:(A ++ x :: B)[A.length]? = some x:=by simp
theorem Zdr {α:Type} {l:List α} {i:Nat} (h:i < l.length):∃ b,l[i]? = some b /\ l.drop i = b :: l.drop (i + 1) :=
 ⟨l[i],List.getElem?_eq_getElem h,List.drop_eq_getElem_cons h⟩
theorem Zcr:Zfa = 274877906944:=rfl
def nameC (s:ByteArray) (i:Nat):Bool:=lowerB (Zfi s i) || (!decide (i = 0) && digitB (Zfi s i))
def Zgd (s:ByteArray):Bool:=((List.range' 0 s.size).all (nameC s)) && decide (1 <= (s.size:Int) /\ (s.size:Int) <= 8)
theorem iName_ok (s:ByteArray) (hs:s.size <= 1048576):Zbk s = some (Zgd s):=by
 rw [impl_NameOk_eq,Zd6]
 refine Zf9 (l:=fun i=>Zbk.l2 s (s.size:Int) i) (n:=s.size) (p:=nameC s) (fin:=decide (1 <= (s.size:Int) /\ (s.size:Int) <= 8)) (fun i hi=>?_) ?_ s.size 0 (by omega)
 · rw [Zbk.l2_eq,Zah,if_pos (by omega)]
   simp only [Zij s i hi,Zac,lower_ok,digit_ok,Zck,Zci]
   rw [Zc5 (i:Int) 1 (by omega) (by omega),show (i:Int) + 1 = ((i + 1:Nat):Int) by omega]
   unfold nameC
   cases hl:lowerB (Zfi s i) with
   | true=>rfl
   | false =>
     by_cases h0:i = 0
     · subst h0; simp [iteB]
     · have:¬ (i:Int) = 0:=by omega
       rw [if_neg this]
       cases digitB (Zfi s i) <;> simp [iteB,h0]
 · rw [Zbk.l2_eq,Zah,if_neg (by omega),Zbk.j7_eq,Zgw,Zac,Zd6]
theorem sName_ok (s:ByteArray) (hs:s.size <= 1048576):Za9 s = some (Zgd s):=by
 rw [spec_NameOk_eq]
 refine Zf9 (l:=fun i=>Za9.l2 s i) (n:=s.size) (p:=nameC s) (fin:=decide (1 <= (s.size:Int) /\ (s.size:Int) <= 8)) (fun i hi=>?_) ?_ s.size 0 (by omega)
 · rw [Za9.l2_eq,Zah,Zd6,if_pos (by omega)]
   simp only [Zij s i hi,Zac,Zck,Zci,Zdh,Zah,Ze7]
   rw [Zc5 (i:Int) 1 (by omega) (by omega),show (i:Int) + 1 = ((i + 1:Nat):Int) by omega]
   unfold nameC lowerB digitB
   generalize Zfi s i = b
   have rest:(if (i:Int) = 0 then some false else if b < 48 then some false else if 57 < b then some false else Za9.l2 s ((i + 1:Nat):Int)) = if (!decide (i = 0) && decide (48 <= b /\ b <= 57)) = true then Za9.l2 s ((i + 1:Nat):Int) else some false:=by
    by_cases h0:i = 0
    · subst h0; simp
    · rw [if_neg (by omega)]
      by_cases h1:b < 48
      · rw [if_pos h1,if_neg (by simp; omega)]
      · rw [if_neg h1]
        by_cases h2:57 < b
        · rw [if_pos h2,if_neg (by simp; omega)]
        · rw [if_neg h2,if_pos (by simp [h0]; omega)]
   rw [rest]
   by_cases h1:97 <= b
   · by_cases h2:b <= 122
     · rw [if_pos h1,if_pos h2]; simp [h1,h2]
     · rw [if_pos h1,if_neg h2]; simp [h1,h2]
   · rw [if_neg h1]; simp [h1]
 · rw [Za9.l2_eq,Zah,Zd6,if_neg (by omega),Za9.j7_eq,l1In_ok,Zac,Zd6]
theorem index_l2 (l:List ByteArray) (v:ByteArray) (hl:l.length <= 1048576):∀ (n i:Nat),i + n = l.length -> ∃ r,Zae.l2 l v (l.length:Int) i = some r /\ leI 0 r = (l.drop i).any (fun y=>decide (y = v))
 | 0,i,e=>by
   have hd:l.drop i = []:=List.drop_eq_nil_of_le (by omega)
   rw [Zae.l2_eq,Zah,if_neg (by omega),Zae.j7_eq,hd]
   exact ⟨-1,rfl,rfl⟩
 | n + 1,i,e=>by
   obtain ⟨y,hy,hd⟩:=Zdr (l:=l) (i:=i) (by omega)
   rw [Zae.l2_eq,Zah,if_pos (by omega),Zcw,hy,Zac,Zef,hd,List.any_cons]
   by_cases h:v = y
   · rw [if_pos h]
     refine ⟨_,rfl,?_⟩
     have:decide (y = v) = true:=decide_eq_true h.symm
     rw [this]
     unfold leI; simp
   · rw [if_neg h,Zc5 (i:Int) 1 (by omega) (by omega),show (i:Int) + 1 = ((i + 1:Nat):Int) by omega]
     obtain ⟨r,h1,h2⟩:=index_l2 l v hl n (i + 1) (by omega)
     have:decide (y = v) = false:=decide_eq_false (fun e=>h e.symm)
     exact ⟨r,h1,by rw [h2,this]; rfl⟩
theorem contains_ok (l:List ByteArray) (v:ByteArray) (hl:l.length <= 1048576):Zao (l,v) = some (l.any (fun y=>decide (y = v))):=by
 obtain ⟨r,h1,h2⟩:=index_l2 l v hl l.length 0 (by omega)
 rw [show ((0:Nat):Int) = 0 from rfl] at h1
 rw [Zge,Zg1,Zbg,h1,Zac,h2]
 rfl
theorem l2Field_l2 (l:FLs) (v:ByteArray) (hl:l.length <= 1048576):∀ (n i:Nat),i + n = l.length -> ∃ r,Zax.l2 l v i = some r /\
  ((∀ y ∈ l.drop i,y.1 ≠ v) -> r = -1) /\ (∀ j y,i <= j -> l[j]? = some y -> y.1 = v -> (∀ k z,i <= k -> k < j -> l[k]? = some z -> z.1 ≠ v) -> r = (j:Int))
 | 0,i,e=>by
   rw [Zax.l2_eq,Zah,Zbg,if_neg (by omega),Zax.j6_eq]
   refine ⟨-1,rfl,fun _=>rfl,fun j y hj hy=>?_⟩
   have:=(List.getElem?_eq_some_iff.1 hy).1
   omega
 | n + 1,i,e=>by
   obtain ⟨y,hy,hd⟩:=Zdr (l:=l) (i:=i) (by omega)
   rw [Zax.l2_eq,Zah,Zbg,if_pos (by omega),Zcw,hy,Zac,Zef]
   by_cases h:y.1 = v
   · rw [if_pos h]
     refine ⟨_,rfl,fun hn=>absurd h (hn y (by rw [hd]; simp)),fun j z hj hz hv hk=>?_⟩
     by_cases e:j = i
     · rw [e]
     · exact absurd h (hk i y (Nat.le_refl _) (by omega) hy)
   · rw [if_neg h,Zc5 (i:Int) 1 (by omega) (by omega),show (i:Int) + 1 = ((i + 1:Nat):Int) by omega]
     obtain ⟨r,h1,h2,h3⟩:=l2Field_l2 l v hl n (i + 1) (by omega)
     refine ⟨r,h1,fun hn=>h2 (fun z hz=>hn z (by rw [hd]; simp [hz])),fun j z hj hz hv hk=>?_⟩
     by_cases e:j = i
     · subst e; rw [hy] at hz; cases hz; exact absurd hv h
     · exact h3 j z (by omega) hz hv (fun k u hk1 hk2=>hk k u (by omega) hk2)
def newName (l:FLs) (i:Nat) (v:ByteArray):Bool:=!((l.take i).map (·.1)).any (fun y=>decide (y = v))
theorem first_of:∀ (l:FLs) (v:ByteArray),(∃ y ∈ l,y.1 = v) -> ∃ (j:Nat) (y:FT),l[j]? = some y /\ y.1 = v /\ ∀ (k:Nat) (z:FT),k < j -> l[k]? = some z -> z.1 ≠ v
 | [],v,⟨y,hy,_⟩=>by cases hy
 | x :: l,v,⟨y,hy,hv⟩=>by
   by_cases hx:x.1 = v
   · exact ⟨0,x,rfl,hx,fun k z hk=>absurd hk (Nat.not_lt_zero _)⟩
   · rcases List.mem_cons.1 hy with rfl | hy
     · exact absurd hv hx
     · obtain ⟨j,z,h1,h2,h3⟩:=first_of l v ⟨y,hy,hv⟩
       refine ⟨j + 1,z,by rw [List.getElem?_cons_succ]; exact h1,h2,fun k u hk hu=>?_⟩
       cases k with
       | zero=>simp at hu; subst hu; exact hx
       | succ k=>exact h3 k u (by omega) (by simpa using hu)
theorem l2Field_new (l:FLs) (hl:l.length <= 1048576) {i:Nat} {f:FT} (hi:l[i]? = some f):∃ r,Zax (l,f.1) = some r /\ decide (r = (i:Int)) = newName l i f.1:=by
 obtain ⟨r,h1,_,h3⟩:=l2Field_l2 l f.1 hl l.length 0 (by omega)
 rw [show ((0:Nat):Int) = 0 from rfl] at h1
 refine ⟨r,by rw [Zf6]; exact h1,?_⟩
 obtain ⟨j,y,k1,k2,k3⟩:=first_of l f.1 ⟨f,List.mem_of_getElem? hi,rfl⟩
 have hr:=h3 j y (Nat.zero_le _) k1 k2 (fun k z _ hk hz=>k3 k z hk hz)
 have hji:j <= i:=Nat.le_of_not_lt fun h=>k3 i f h hi rfl
 subst hr
 unfold newName
 by_cases e:j = i
 · subst e
   have:((l.take j).map (·.1)).any (fun y=>decide (y = f.1)) = false:=by
    rw [List.any_eq_false]
    intro z hz
    obtain ⟨u,hu,rfl⟩:=List.mem_map.1 hz
    obtain ⟨k,hk⟩:=List.mem_iff_getElem?.1 hu
    rw [List.getElem?_take] at hk
    split at hk
    · simpa using k3 k u (by assumption) hk
    · cases hk
   rw [this]; simp
 · have:((l.take i).map (·.1)).any (fun y=>decide (y = f.1)) = true:=by
     rw [List.any_eq_true]
     refine ⟨y.1,List.mem_map.2 ⟨y,List.mem_of_getElem? (i:=j) ?_,rfl⟩,by simpa using k2⟩
     rw [List.getElem?_take,if_pos (by omega)]; exact k1
   rw [this,decide_eq_false (by omega)]; rfl
def kindB (f:FT):Bool:=decide (1 <= f.2.1 /\ f.2.1 <= 3) && (if f.2.1 = 1 then decide (1 <= f.2.2 /\ f.2.2 <= 9) else decide (f.2.2 = 0))
def fieldB (l:FLs) (i:Nat):Bool:=match l[i]? with
 | some f=>Zgd f.1 && (newName l i f.1 && kindB f)
 | none=>false
def Zh3 (l:FLs):Bool:=((List.range' 0 l.length).all (fieldB l)) && decide (1 <= (l.length:Int) /\ (l.length:Int) <= 4)
theorem sFields_ok (l:FLs) (hl:l.length <= 1048576) (hs:∀ f ∈ l,f.1.size <= 1048576):Zay l = some (Zh3 l):=by
 rw [spec_FieldsOk_eq]
 refine Zf9 (l:=fun i=>Zay.l2 l i) (n:=l.length) (p:=fieldB l) (fin:=decide (1 <= (l.length:Int) /\ (l.length:Int) <= 4)) (fun i hi=>?_) ?_ l.length 0 (by omega)
 · have hf:l[i]? = some l[i]:=List.getElem?_eq_getElem hi
   generalize l[i] = f at hf
   obtain ⟨r,hr,hrn⟩:=l2Field_new l hl hf
   rw [Zay.l2_eq,Zah,Zbg,if_pos (by omega)]
   have hsz:=hs f (List.mem_of_getElem? hf)
   simp only [Zcw,hf,Zac,Zci,l1In_ok,sName_ok f.1 hsz,hr,Zck,Ze7]
   rw [Zc5 (i:Int) 1 (by omega) (by omega),show (i:Int) + 1 = ((i + 1:Nat):Int) by omega]
   have e:fieldB l i = (Zgd f.1 && (newName l i f.1 && kindB f)):=by unfold fieldB; rw [hf]
   rw [e,← hrn]
   unfold kindB
   generalize Zay.l2 l ((i + 1:Nat):Int) = X
   by_cases h1:f.2.1 = 1
   · have c1:decide (2 <= f.2.1 /\ f.2.1 <= 3) = false:=decide_eq_false (by omega)
     have c2:decide (1 <= f.2.1 /\ f.2.1 <= 3) = true:=decide_eq_true (by omega)
     rw [if_pos h1,if_pos h1,c1,c2,Ze7]
     cases Zgd f.1
     · rfl
     · by_cases hri:r = (i:Int)
       · rw [if_pos hri,decide_eq_true hri,Zeu]
         cases decide (1 <= f.2.2 /\ f.2.2 <= 9) <;> rfl
       · rw [if_neg hri,decide_eq_false hri,Zeu]; rfl
   · rw [if_neg h1,if_neg h1]
     have c2:decide (1 <= f.2.1 /\ f.2.1 <= 3) = decide (2 <= f.2.1 /\ f.2.1 <= 3):=by
      by_cases h:2 <= f.2.1 /\ f.2.1 <= 3
      · rw [decide_eq_true h,decide_eq_true (by omega)]
      · rw [decide_eq_false h,decide_eq_false (by omega)]
     rw [c2]
     cases Zgd f.1
     · cases decide (2 <= f.2.1 /\ f.2.1 <= 3) <;> rfl
     · by_cases hri:r = (i:Int)
       · rw [if_pos hri,if_pos hri,decide_eq_true hri]
         by_cases hw:f.2.2 = 0
         · rw [if_pos hw,decide_eq_true hw]
           cases decide (2 <= f.2.1 /\ f.2.1 <= 3) <;> rfl
         · rw [if_neg hw,decide_eq_false hw]
           cases decide (2 <= f.2.1 /\ f.2.1 <= 3) <;> rfl
       · rw [if_neg hri,if_neg hri,decide_eq_false hri]
         cases decide (2 <= f.2.1 /\ f.2.1 <= 3) <;> rfl
 · rw [Zay.l2_eq,Zah,Zbg,if_neg (by omega),Zay.j9_eq,l1In_ok,Zac,Zbg]
theorem iFields_ok (l:FLs) (hl:l.length <= 1048576) (hs:∀ f ∈ l,f.1.size <= 1048576):Zav l = some (Zh3 l):=by
 rw [impl_FieldsOk_eq,Zbg]
 have:=Zf9 (l:=fun i=>Zav.l3 l l (l.length:Int) i ((l.take i.toNat).map (·.1))) (n:=l.length) (p:=fieldB l) (fin:=decide (1 <= (l.length:Int) /\ (l.length:Int) <= 4)) (fun i hi=>?_) ?_ l.length 0 (by omega)
 · exact this
 · have hf:l[i]? = some l[i]:=List.getElem?_eq_getElem hi
   generalize l[i] = f at hf
   have hsz:=hs f (List.mem_of_getElem? hf)
   simp only [Int.toNat_natCast]
   have hlen:((l.take i).map (·.1)).length = i:=by simp; omega
   have nx:appL ((l.take i).map (·.1)) [f.1] = (l.take (i + 1)).map (·.1):=by
    unfold appL; rw [List.take_add_one,hf]; simp
   have step:∀ b:Bool,(b = if f.2.1 = 1 then decide (1 <= f.2.2 /\ f.2.2 <= 9) else decide (f.2.2 = 0)) -> Zav.j8 l b l (l.length:Int) i f.1 f.2.1 f.2.2 ((l.take i).map (·.1)) =
     if fieldB l i = true then Zav.l3 l l (l.length:Int) ((i + 1:Nat):Int) ((l.take (i + 1)).map (·.1)) else some false:=fun b hb=>by
    rw [Zav.j8_eq]
    simp only [iName_ok f.1 hsz,Zac,contains_ok _ f.1 (by rw [hlen]; omega),Zgw,Zck,Zdb]
    rw [if_pos (by rw [hlen,Zcr]; simp; omega),nx,Zc5 (i:Int) 1 (by omega) (by omega),show (i:Int) + 1 = ((i + 1:Nat):Int) by omega]
    have e:fieldB l i = (Zgd f.1 && (newName l i f.1 && kindB f)):=by unfold fieldB; rw [hf]
    rw [e]
    unfold kindB newName
    rw [← hb]
    generalize Zav.l3 l l (l.length:Int) ((i + 1:Nat):Int) ((l.take (i + 1)).map (·.1)) = X
    cases Zgd f.1 <;> cases ((l.take i).map (·.1)).any (fun y=>decide (y = f.1)) <;> cases decide (1 <= f.2.1 /\ f.2.1 <= 3) <;> cases b <;> rfl
   rw [Zav.l3_eq,Zah,if_pos (by omega)]
   simp only [Zcw,hf,Zac,Zci,Zgw]
   by_cases h1:f.2.1 = 1
   · rw [if_pos h1,step _ (by rw [if_pos h1])]
   · rw [if_neg h1,step _ (by rw [if_neg h1]; rfl)]
 · rw [Zav.l3_eq,Zah,if_neg (by omega),Zav.j12_eq,Zgw,Zac,Zbg]
end Go.E
namespace Go.E
open Go
def toB (l:List UInt8):ByteArray:=⟨l.toArray⟩
def toL (s:ByteArray):List UInt8:=s.data.toList
theorem Zit (s:ByteArray):toB (toL s) = s:=by cases s; rfl
theorem toL_toB (l:List UInt8):toL (toB l) = l:=rfl
theorem Zdu (s:ByteArray):(toL s).length = s.size:=rfl
def Zem:List UInt8 -> List (List UInt8)
 | []=>[[]]
 | b :: r=>if b = 44 then [] :: Zem r else match Zem r with
   | w :: ws=>(b :: w) :: ws
   | []=>[[b]]
theorem splitL_none {u:List UInt8} (h:(44:UInt8) ∉ u):Zem u = [u]:=by
 induction u with
 | nil=>rfl
 | cons b r ih =>
   simp only [List.mem_cons,not_or] at h
   simp only [Zem]
   rw [if_neg (fun e=>h.1 e.symm),ih h.2]
theorem splitL_app {u r:List UInt8} (h:(44:UInt8) ∉ u):Zem (u ++ 44 :: r) = u :: Zem r:=by
 induction u with
 | nil=>simp [Zem]
 | cons b u ih =>
   simp only [List.mem_cons,not_or] at h
   rw [List.cons_append]
   simp only [Zem]
   rw [if_neg (fun e=>h.1 e.symm),ih h.2]
theorem index_cases (c:UInt8):∀ l:List UInt8,(c ∉ l /\ Lib.indexByte l c = -1) ∨ ∃ u r,l = u ++ c :: r /\ c ∉ u /\ Lib.indexByte l c = (u.length:Nat)
 | []=>.inl ⟨by simp,rfl⟩
 | b :: l=>by
   by_cases hb:b = c
   · subst hb
     exact .inr ⟨[],l,rfl,by simp,by simp [Lib.indexByte]⟩
   · rcases index_cases c l with ⟨h1,h2⟩ | ⟨u,r,rfl,h1,h2⟩
     · exact .inl ⟨by simp [h1,Ne.symm hb],by simp [Lib.indexByte,hb,h2]⟩
     · refine .inr ⟨b :: u,r,rfl,by simp [h1,Ne.symm hb],?_⟩
       have:Lib.indexByte (u ++ c :: r) c ≠ -1:=by rw [h2]; omega
       simp only [Lib.indexByte]
       rw [if_neg (by simpa using hb),if_neg (by simpa using this),h2]
       simp
theorem Zg7 (s:ByteArray) (i j:Nat):toL (cutS s (i:Int) (j:Int)) = ((toL s).drop i).take (j - i):=by
 unfold cutS toL
 simp [ByteArray.data_extract,Array.toList_extract]
theorem index_ok (s:ByteArray):Zcx (s,bs [44]) = if (bs [44]:ByteArray) = s then some 0 else some (Lib.indexByte (toL s) 44):=by
 rw [strings_Index_eq,Zg6]
 simp only [Zci,Zef]
 rw [if_neg (by decide)]
 by_cases h:(bs [44]:ByteArray) = s
 · rw [if_pos h,if_pos h]; rfl
 · rw [if_neg h,if_neg h,if_pos (by decide)]
   have:atS (bs [44]) 0 = some 44:=by decide
   rw [this,Zac,Zgc]
   rfl
theorem index_ok' (s:ByteArray):Zcx (s,bs [44]) = some (Lib.indexByte (toL s) 44):=by
 rw [index_ok]
 split
 · rename_i h; rw [← h]; rfl
 · rfl
theorem split_loop:∀ (k:Nat) (s:ByteArray) (i c:Nat) (a:List ByteArray),i + k = c -> (toL s).count 44 = k -> a.length = c + 1 -> c < 1048578 -> s.size <= 1048576 ->
  Zan.l11 s (bs [44]) 0 (c:Int) (i:Int) a = some (a.take i ++ (Zem (toL s)).map toB)
 | 0,s,i,c,a,hi,hc,ha,hlt,hs=>by
   have e:i = c:=by omega
   subst e
   have hn:(44:UInt8) ∉ toL s:=by rw [← List.count_eq_zero]; exact hc
   rw [Zan.l11_eq,Zah,if_neg (by omega),Zan.j17_eq,Zdh,if_pos (by omega),Zah,Zbg,if_pos (by omega),Zcw,List.getElem?_eq_getElem (by omega),Zac,Zc5 _ _ (by omega) (by omega),Zd5,Zbg]
   have hl:(setL a (i:Int) s).length = i + 1:=by simp [setL,ha]
   rw [if_pos ⟨by omega,by omega,by omega⟩,splitL_none hn]
   simp only [cutL,setL]
   congr 1
   rw [show ((i:Int) + 1).toNat = i + 1 by omega,show (0:Int).toNat = 0 by rfl,List.drop_zero]
   apply List.ext_getElem?
   intro j
   simp only [Int.toNat_natCast,List.map_cons,List.map_nil,Zit]
   by_cases hj:j < i
   · rw [List.getElem?_take,if_pos (by omega),List.getElem?_set,if_neg (by omega),List.getElem?_append_left (by simp; omega),List.getElem?_take,if_pos hj]
   · by_cases hj':j = i
     · subst hj'
       rw [List.getElem?_take,if_pos (by omega),List.getElem?_set,if_pos rfl,if_pos (by omega),List.getElem?_append_right (by simp; omega)]
       simp [show min j a.length = j by omega]
     · rw [List.getElem?_take,if_neg (by omega),List.getElem?_eq_none]
       simp; omega
 | k + 1,s,i,c,a,hi,hc,ha,hlt,hs=>by
   rcases index_cases 44 (toL s) with ⟨h1,_⟩ | ⟨u,r,h1,h2,h3⟩
   · rw [List.count_eq_zero.2 h1] at hc; cases hc
   · have hsz:s.size = u.length + (r.length + 1):=by rw [← Zdu,h1]; simp
     rw [Zan.l11_eq,Zah,if_pos (by omega),index_ok',Zac,h3,Zah,if_neg (by omega),Zd5,Zd6,Zc5 _ _ (by omega) (by omega),if_pos ⟨by omega,by omega,by omega⟩,
      Zdh,if_pos (by omega),Zah,Zbg,if_pos (by omega),Zcw,List.getElem?_eq_getElem (by omega),Zac,Zd5]
     have hb:lenS (bs [44]) = 1:=rfl
     rw [hb,Zc5 _ _ (by omega) (by omega),if_pos ⟨by omega,by omega,by omega⟩,Zc5 _ _ (by omega) (by omega)]
     have e1:toL (cutS s ((u.length:Int) + 1) (s.size:Int)) = r:=by
      rw [show ((u.length:Int) + 1) = ((u.length + 1:Nat):Int) by omega,Zg7,h1,hsz]
      have ed:(u ++ 44 :: r).drop (u.length + 1) = r:=by
       rw [show u.length + 1 = (u ++ [(44:UInt8)]).length by simp,show u ++ 44 :: r = (u ++ [(44:UInt8)]) ++ r by simp,List.drop_left]
      rw [ed]
      exact List.take_of_length_le (by omega)
     have e2:cutS s 0 ((u.length:Int) + 0) = toB u:=by
      have:toL (cutS s ((0:Nat):Int) ((u.length:Nat):Int)) = u:=by rw [Zg7,h1]; simp
      rw [← Zit (cutS s 0 ((u.length:Int) + 0))]
      congr 1
     have hcnt:(toL (cutS s ((u.length:Int) + 1) (s.size:Int))).count 44 = k:=by
      rw [e1]; rw [h1,List.count_append,List.count_eq_zero.2 h2] at hc; simp at hc; omega
     rw [show ((i:Int) + 1) = ((i + 1:Nat):Int) by omega,split_loop k _ (i + 1) c _ (by omega) hcnt (by simp [setL,ha]) hlt (by rw [← Zdu,e1]; omega),e1,e2,h1,splitL_app h2]
     congr 1
     simp only [setL,Int.toNat_natCast,List.map_cons]
     rw [List.take_set,List.take_add_one,List.getElem?_eq_getElem (by omega)]
     simp only [Option.toList_some]
     rw [List.set_append_right _ _ (by simp; omega)]
     simp [show min i a.length = i by omega]
theorem split_ok (s:ByteArray) (hs:s.size <= 1048576):Zc8 (s,bs [44]) = some ((Zem (toL s)).map toB):=by
 have hcnt:(toL s).count 44 <= s.size:=by rw [← Zdu]; exact List.count_le_length
 rw [strings_Split_eq,strings_genSplit_eq,Zci,if_neg (by decide),Zef,if_neg (by decide),Zah,if_pos (by decide),strings_Count_eq,Zci,if_neg (by decide),Zci,if_pos (by decide)]
 have h0:atS (bs [44]) 0 = some 44:=by decide
 have h1:Zdw (s,44) = some (((toL s).count 44:Nat):Int):=rfl
 rw [h0,Zac,h1,Zac,Zac,Zc5 _ _ (by omega) (by omega),Zan.j7_eq,Zci,if_pos rfl,iteB_roomN]
 have hm:minI ((((toL s).count 44:Nat):Int) + 1) (addI .i64 (lenS s) 1) = (((toL s).count 44 + 1:Nat):Int):=by
  rw [Zd6,Zc5 _ _ (by omega) (by omega)]; unfold minI; rw [if_neg (by omega)]; omega
 rw [hm,if_pos ⟨by omega,by unfold Zfa; omega⟩,Zkf _ _ (by omega) (by omega)]
 have:=split_loop ((toL s).count 44) s 0 ((toL s).count 44) (repL (((toL s).count 44 + 1:Nat):Int) (bs [])) (by omega) rfl (by simp [repL]) (by omega) hs
 rw [show (((toL s).count 44 + 1:Nat):Int) - 1 = (((toL s).count 44:Nat):Int) by omega]
 rw [show ((0:Nat):Int) = 0 from rfl] at this
 rw [this]; rfl
end Go.E
namespace Go.E
open Go
def alB (b:UInt8):Bool:=alnumB (b.toNat:Int)
theorem range_all (s:ByteArray) (q:Int -> Bool):(List.range' 0 s.size).all (fun i=>q (Zfi s i)) = (toL s).all (fun b=>q (b.toNat:Int)):=by
 rw [Bool.eq_iff_iff,List.all_eq_true,List.all_eq_true]
 constructor
 · intro h b hb
   obtain ⟨i,hi,rfl⟩:=List.getElem_of_mem hb
   have hi':i < s.size:=hi
   have:=h i (by simp [List.mem_range']; omega)
   unfold Zfi at this
   have e:s.data[i]? = some (toL s)[i]:=by
    unfold toL; rw [Array.getElem?_eq_getElem hi']; simp
   rw [e] at this; exact this
 · intro h i hi
   have hi':i < s.size:=by simp [List.mem_range'] at hi; omega
   have e:s.data[i]? = some ((toL s)[i]'hi'):=by
    unfold toL; rw [Array.getElem?_eq_getElem hi']; simp
   unfold Zfi
   rw [e]
   exact h _ (List.getElem_mem _)
theorem ne_isEmpty {l:List UInt8} (h:l ≠ []):(!l.isEmpty) = true:=by
 cases l with
 | nil=>exact absurd rfl h
 | cons _ _=>rfl
abbrev W3:=List UInt8 × Nat × Nat
def fl (j:Nat) (c:List UInt8) (ws:List W3):List W3:=if c = [] then ws else (c,j,j + c.length) :: ws
def wl:Nat -> List UInt8 -> List UInt8 × List W3
 | _,[]=>([],[])
 | i,b :: r=>if alB b = true then (b :: (wl (i + 1) r).1,(wl (i + 1) r).2) else ([],fl (i + 1) (wl (i + 1) r).1 (wl (i + 1) r).2)
def Ze1 (i:Nat) (t:List UInt8):List W3:=fl i (wl i t).1 (wl i t).2
theorem wl_eq:∀ (t:List UInt8) (i:Nat),wl i t = (t.takeWhile alB,Ze1 (i + (t.takeWhile alB).length) (t.drop (t.takeWhile alB).length))
 | [],i=>by simp [wl,Ze1,fl]
 | b :: r,i=>by
   by_cases hb:alB b = true
   · rw [wl,if_pos hb,wl_eq r (i + 1)]
     simp only [List.takeWhile_cons,hb,if_true,List.length_cons,List.drop_succ_cons]
     rw [show i + ((r.takeWhile alB).length + 1) = i + 1 + (r.takeWhile alB).length by omega]
   · have e:(b :: r).takeWhile alB = []:=by simp [hb]
     rw [e]
     simp only [List.length_nil,Nat.add_zero,List.drop_zero]
     rw [wl,if_neg hb]
     congr 1
     rw [Ze1,wl,if_neg hb]
     simp [fl]
theorem wordsP_skip {b:UInt8} (hb:alB b = false) (r:List UInt8) (i:Nat):Ze1 i (b :: r) = Ze1 (i + 1) r:=by
 simp [Ze1,wl,hb,fl]
theorem wordsP_take {t:List UInt8} (h:t.takeWhile alB ≠ []) (i:Nat):Ze1 i t = (t.takeWhile alB,i,i + (t.takeWhile alB).length) :: Ze1 (i + (t.takeWhile alB).length) (t.drop (t.takeWhile alB).length):=by
 rw [Ze1,wl_eq]
 simp only
 rw [fl,if_neg h]
def seenB (b:UInt8):Bool:=decide (32 <= (b.toNat:Int) /\ (b.toNat:Int) <= 126)
def lenW:List W3 -> Nat
 | []=>0
 | w :: r=>w.1.length + 1 + lenW r
theorem wl_len:∀ (t:List UInt8) (i:Nat),(wl i t).1.length + lenW (wl i t).2 <= t.length
 | [],i=>by simp [wl,lenW]
 | b :: r,i=>by
   have:=wl_len r (i + 1)
   rw [wl]
   split
   · simp only [List.length_cons]; omega
   · simp only [List.length_nil,fl,List.length_cons]
     split
     · omega
     · simp only [lenW]; omega
theorem wordsP_len (t:List UInt8) (i:Nat):lenW (Ze1 i t) <= t.length + 1:=by
 have:=wl_len t i
 unfold Ze1 fl
 split
 · omega
 · simp only [lenW]; omega
theorem lenW_ge:∀ ws:List W3,ws.length <= lenW ws
 | []=>Nat.le_refl _
 | w :: r=>by have:=lenW_ge r; simp only [lenW,List.length_cons]; omega
theorem small_ok (b:Int) (h0:0 <= b) (h1:b <= 255):Zc7 b = some (Zfe b):=by
 rw [spec_l1Small_eq]
 simp only [Zdh]
 unfold Zfe
 by_cases h:65 <= b /\ b <= 90
 · rw [if_pos h.1,if_pos h.2,if_pos h]
   congr 1
   exact IntWalk.u8_in _ ⟨by omega,by omega⟩
 · rw [if_neg h]
   by_cases h':65 <= b
   · rw [if_pos h',if_neg (by omega)]
   · rw [if_neg h']
theorem part_ok (b:Int) (h0:0 <= b) (h1:b <= 255):Zdm b = some (alnumB b):=by
 rw [spec_l1Part_eq,small_ok b h0 h1,Zac]
 simp only [Zdh]
 have:alnumB b = decide ((97 <= Zfe b /\ Zfe b <= 122) ∨ (48 <= Zfe b /\ Zfe b <= 57)):=by
  unfold alnumB upperB lowerB digitB Zfe
  rw [← Bool.decide_or,← Bool.decide_or]
  apply decide_eq_decide.2
  split <;> omega
 rw [this]
 unfold leI
 by_cases a1:97 <= Zfe b <;> by_cases a2:Zfe b <= 122 <;> by_cases a3:48 <= Zfe b <;> by_cases a4:Zfe b <= 57 <;> simp [a1,a2,a3,a4] <;> omega
theorem atS_toL {s:ByteArray} {i:Nat} {b:UInt8} (h:(toL s)[i]? = some b):atS s i = some ((b.toNat:Int)):=by
 have hi:i < s.size:=(List.getElem?_eq_some_iff.1 h).1
 rw [Zij s i hi]
 unfold Zfi
 unfold toL at h
 rw [Array.getElem?_toList] at h
 rw [h]; rfl
theorem byte_le (b:UInt8):(0:Int) <= (b.toNat:Int) /\ (b.toNat:Int) <= 255:=⟨by omega,by have:=b.toNat_lt; omega⟩
theorem words_l5 (s:ByteArray) (hs:s.size <= 1048576) (i:Nat) (out:List (ByteArray × (Int × Int))):∀ (n k:Nat),k + n = s.size -> Zbi.l5 s i k out = Zbi.j7 s i ((k + (((toL s).drop k).takeWhile alB).length:Nat):Int) out
 | 0,k,e=>by
   rw [Zbi.l5_eq,Zah,Zd6,if_neg (by omega)]
   rw [List.drop_eq_nil_of_le (by rw [Zdu]; omega)]; simp
 | n + 1,k,e=>by
   obtain ⟨b,hb,hd⟩:=Zdr (l:=toL s) (i:=k) (by rw [Zdu]; omega)
   rw [Zbi.l5_eq,Zah,Zd6,if_pos (by omega),atS_toL hb,Zac,part_ok _ (byte_le b).1 (byte_le b).2,Zac]
   have e1:alnumB (b.toNat:Int) = alB b:=rfl
   rw [e1,hd]
   cases ha:alB b with
   | true =>
     rw [Zeu,Zc5 (k:Int) 1 (by omega) (by omega)]
     have:=words_l5 s hs i out n (k + 1) (by omega)
     rw [show (k:Int) + 1 = ((k + 1:Nat):Int) by omega,this]
     simp only [List.takeWhile_cons,ha,if_true,List.length_cons]
     congr 2; omega
   | false =>
     rw [Ze7]
     simp [ha]
def wOf (w:W3):ByteArray × (Int × Int):=(toB w.1,((w.2.1:Int),(w.2.2:Int)))
theorem words_l3 (s:ByteArray) (hs:s.size <= 1048576):∀ (n i:Nat) (out:List (ByteArray × (Int × Int))),s.size - i <= n -> i <= s.size -> out.length <= i -> Zbi.l3 s i out = some (out ++ (Ze1 i ((toL s).drop i)).map wOf)
 | n,i,out,hn,hi,ho=>by
   by_cases hlt:i < s.size
   · obtain ⟨b,hb,hd⟩:=Zdr (l:=toL s) (i:=i) (by rw [Zdu]; omega)
     rw [Zbi.l3_eq,Zah,Zd6,if_pos (by omega),words_l5 s hs i out (s.size - i) i (by omega),Zbi.j7_eq,Zci]
     have htl:(((toL s).drop i).takeWhile alB).length <= s.size - i:=by
      have:=(List.takeWhile_prefix alB (l:=(toL s).drop i)).length_le
      rw [List.length_drop,Zdu] at this; exact this
     cases n with
     | zero=>omega
     | succ n =>
     by_cases h0:((toL s).drop i).takeWhile alB = []
     · rw [h0,if_pos (by simp),Zc5 (i:Int) 1 (by omega) (by omega),show (i:Int) + 1 = ((i + 1:Nat):Int) by omega,words_l3 s hs n (i + 1) out (by omega) (by omega) (by omega)]
       have:alB b = false:=by
        rw [hd] at h0
        cases ha:alB b with
        | false=>rfl
        | true=>simp [ha] at h0
       rw [hd,wordsP_skip this]
     · have hpos:0 < (((toL s).drop i).takeWhile alB).length:=List.length_pos_iff.2 h0
       rw [if_neg (by omega),Zd6,Zd5,if_pos (by omega),Zdb,if_pos (by simp; rw [Zcr]; omega)]
       unfold appL
       rw [words_l3 s hs n (i + (((toL s).drop i).takeWhile alB).length) _ (by omega) (by omega) (by simp <;> omega)]
       rw [wordsP_take h0 i,List.map_cons,List.append_assoc,List.drop_drop]
       congr 2
       simp only [List.singleton_append,List.cons.injEq,and_true]
       unfold wOf
       congr 1
       rw [← Zit (cutS s _ _),Zg7]
       congr 1
       rw [Nat.add_sub_cancel_left]
       exact (List.prefix_iff_eq_take.1 (List.takeWhile_prefix alB)).symm
   · have:i = s.size:=by omega
     rw [Zbi.l3_eq,Zah,Zd6,if_neg (by omega),Zbi.j11_eq,List.drop_eq_nil_of_le (by rw [Zdu]; omega)]
     simp [Ze1,wl,fl]
theorem sWords_ok (s:ByteArray) (hs:s.size <= 1048576):Zbi s = some ((Ze1 0 (toL s)).map wOf):=by
 rw [spec_Words_eq]
 have:=words_l3 s hs s.size 0 [] (by omega) (by omega) (Nat.zero_le _)
 simpa using this
theorem toL_cat (a b:ByteArray):toL (catS a b) = toL a ++ toL b:=by
 unfold toL catS; simp
theorem toL_inj {a b:ByteArray} (h:toL a = toL b):a = b:=by rw [← Zit a,h,Zit]
theorem l2Text_ok (s:ByteArray) (hs:s.size <= 1048576):Zbt s = some ((toL s).all seenB && decide ((s.size:Int) <= 60)):=by
 rw [spec_l2Text_eq]
 have:=Zf9 (l:=fun i=>Zbt.l2 s i) (n:=s.size) (p:=fun i=>decide (32 <= Zfi s i /\ Zfi s i <= 126)) (fin:=decide ((s.size:Int) <= 60)) (fun i hi=>?_) ?_ s.size 0 (by omega)
 · refine this.trans ?_
   have e:=range_all s (fun b=>decide (32 <= b /\ b <= 126))
   rw [e]; rfl
 · rw [Zbt.l2_eq,Zah,Zd6,if_pos (by omega),Zij s i hi,Zac]
   have hb:0 <= Zfi s i /\ Zfi s i <= 255:=by
    have hi':i < (toL s).length:=hi
    have:=atS_toL (List.getElem?_eq_getElem hi')
    rw [Zij s i hi] at this
    rw [Option.some.inj this]; exact byte_le _
   have hc:Zhv .i64 (Zfi s i) = Zfi s i:=IntWalk.i64_in _ ⟨by omega,by omega⟩
   rw [hc,l1In_ok,Zac,Zck,Zc5 (i:Int) 1 (by omega) (by omega)]
   unfold iteB
   rfl
 · rw [Zbt.l2_eq,Zah,Zd6,if_neg (by omega),Zbt.j6_eq]; rfl
theorem rowOfS_eq (s:ByteArray):Zgb s = (toL s).map fun b=>(b.toNat:Int):=rfl
theorem rowOfS_len (s:ByteArray):(Zgb s).length = s.size:=by rw [rowOfS_eq,List.length_map,Zdu]
theorem atS_row (s:ByteArray) (i:Nat):atS s i = (Zgb s)[i]?:=by
 unfold atS Zgb
 rw [if_pos (by omega)]
 simp
theorem row_byte {s:ByteArray} {i:Nat} {b:Int} (h:(Zgb s)[i]? = some b):0 <= b /\ b <= 255:=by
 rw [rowOfS_eq,List.getElem?_map,Option.map_eq_some_iff] at h
 obtain ⟨c,_,rfl⟩:=h
 exact byte_le c
def foldI (s:ByteArray):ByteArray:=strOf ((Zgb s).map Zfe)
theorem sFold_l3 (s:ByteArray) (hs:s.size <= 1048576):∀ (n i:Nat) (acc:List Int),i + n = s.size -> acc.length = i -> Zcn.l3 s i acc = some (strOf (acc ++ ((Zgb s).drop i).map Zfe))
 | 0,i,acc,e,ha=>by
   rw [Zcn.l3_eq,Zah,Zd6,if_neg (by omega),Zcn.j6_eq,List.drop_eq_nil_of_le (by rw [rowOfS_len]; omega)]; simp
 | n + 1,i,acc,e,ha=>by
   obtain ⟨b,hb,hd⟩:=Zdr (l:=Zgb s) (i:=i) (by rw [rowOfS_len]; omega)
   have hbb:=row_byte hb
   rw [Zcn.l3_eq,Zah,Zd6,if_pos (by omega),atS_row,hb,Zac,small_ok b hbb.1 hbb.2,Zac,Zdb,if_pos (by simp; rw [Zcr]; omega),Zc5 (i:Int) 1 (by omega) (by omega),
    show (i:Int) + 1 = ((i + 1:Nat):Int) by omega]
   unfold appL
   rw [sFold_l3 s hs n (i + 1) _ (by omega) (by simp; omega),hd]
   simp
theorem sFold_ok (s:ByteArray) (hs:s.size <= 1048576):Zcn s = some (foldI s):=by
 rw [spec_Fold_eq]
 have:=sFold_l3 s hs s.size 0 [] (by omega) rfl
 unfold foldI
 simpa using this
theorem iFold_l3 (r:List Int) (hr:r.length <= 1048576) (hb:∀ (i:Nat) (b:Int),r[i]? = some b -> 0 <= b /\ b <= 255):∀ (n i:Nat),i + n = r.length -> Zce.l3 (r.length:Int) i ((r.take i).map Zfe ++ r.drop i) = some (strOf (r.map Zfe))
 | 0,i,e=>by
   rw [Zce.l3_eq,Zah,if_neg (by omega),Zce.j8_eq,List.drop_eq_nil_of_le (by omega),List.take_of_length_le (by omega)]; simp
 | n + 1,i,e=>by
   obtain ⟨b,hbi,hd⟩:=Zdr (l:=r) (i:=i) (by omega)
   have hbb:=hb i b hbi
   have hl:((r.take i).map Zfe ++ r.drop i).length = r.length:=by simp; omega
   have hat:((r.take i).map Zfe ++ r.drop i)[i]? = some b:=by
    rw [List.getElem?_append_right (by simp; omega)]
    simp only [List.length_map,List.length_take]
    rw [Nat.min_eq_left (by omega),Nat.sub_self,hd]; rfl
   have ht:r.take (i + 1) = r.take i ++ [b]:=by rw [List.take_add_one,hbi]; rfl
   have hset:setL ((r.take i).map Zfe ++ r.drop i) i (Zfe b) = (r.take (i + 1)).map Zfe ++ r.drop (i + 1):=by
    unfold setL
    rw [Int.toNat_natCast,List.set_append_right _ _ (by simp; omega),ht,hd]
    simp only [List.length_map,List.length_take]
    rw [Nat.min_eq_left (by omega),Nat.sub_self]; simp
   rw [Zce.l3_eq,Zah,if_pos (by omega),Zdh,if_pos (by omega),Zah,Zbg,if_pos (by omega),Zcw,hat,Zac,upper_ok,Zac]
   cases hu:upperB b with
   | true =>
     have hu':65 <= b /\ b <= 90:=by unfold upperB at hu; simpa using hu
     have hsm:subI Go.IntKind.u8 (addI Go.IntKind.u8 b (97:Int)) (65:Int) = Zfe b:=by
      unfold Zfe; rw [if_pos hu']
      have h1:addI Go.IntKind.u8 b 97 = b + 97:=IntWalk.u8_in _ ⟨by omega,by omega⟩
      rw [h1]
      have h2:subI Go.IntKind.u8 (b + 97) 65 = b + 97 - 65:=IntWalk.u8_in _ ⟨by omega,by omega⟩
      rw [h2]; omega
     rw [Zeu,Zdh,if_pos (by omega),Zah,if_pos (by omega),Zac,Zce.j7_eq,hsm,hset,Zc5 (i:Int) 1 (by omega) (by omega),show (i:Int) + 1 = ((i + 1:Nat):Int) by omega]
     exact iFold_l3 r hr hb n (i + 1) (by omega)
   | false =>
     have hu':¬ (65 <= b /\ b <= 90):=by unfold upperB at hu; simpa using hu
     have hsm:Zfe b = b:=by unfold Zfe; rw [if_neg hu']
     rw [Ze7,Zce.j7_eq,Zc5 (i:Int) 1 (by omega) (by omega),show (i:Int) + 1 = ((i + 1:Nat):Int) by omega]
     have hset2:(r.take i).map Zfe ++ r.drop i = (r.take (i + 1)).map Zfe ++ r.drop (i + 1):=by
      rw [ht,hd]; simp [hsm]
     rw [hset2]
     exact iFold_l3 r hr hb n (i + 1) (by omega)
theorem iFold_ok (s:ByteArray) (hs:s.size <= 1048576):Zce s = some (foldI s):=by
 rw [impl_Fold_eq]
 have:=iFold_l3 (Zgb s) (by rw [rowOfS_len]; exact hs) (fun i b h=>row_byte h) (Zgb s).length 0 (by omega)
 exact this
end Go.E
namespace Go.E
open Go
def stopsL:List ByteArray:=[bs [97],bs [97,110],bs [97,110,100],bs [111,102],bs [116,104,101],bs [116,111]]
theorem stop_l3 (v:ByteArray) (l:List ByteArray) (hl:l.length <= 1000):∀ (n i:Nat),i + n = l.length -> Zbz.l3 v i l = some ((l.drop i).any (fun y=>decide (y = v)))
 | 0,i,e=>by
   have hd:l.drop i = []:=List.drop_eq_nil_of_le (by omega)
   rw [Zbz.l3_eq,Zah,Zbg,if_neg (by omega),Zbz.j7_eq,hd]; rfl
 | n + 1,i,e=>by
   obtain ⟨y,hy,hd⟩:=Zdr (l:=l) (i:=i) (by omega)
   have c1:((i:Int) < (l.length:Int)) = True:=eq_true (by omega)
   have c2:((0:Int) <= (i:Int)) = True:=eq_true (by omega)
   rw [Zbz.l3_eq]
   simp only [Zah,Zdh,Zbg,Zcw,hy,Zac,c1,c2,if_true,Zef]
   rw [hd,List.any_cons]
   by_cases h:y = v
   · rw [if_pos h,decide_eq_true h]; rfl
   · rw [if_neg h,Zc5 (i:Int) 1 (by omega) (by omega),show (i:Int) + 1 = ((i + 1:Nat):Int) by omega,stop_l3 v l hl n (i + 1) (by omega),decide_eq_false h]; rfl
def stopB (v:ByteArray):Bool:=stopsL.any (fun y=>decide (y = v))
theorem l1Stop_ok (v:ByteArray):Zbz v = some (stopB v):=by
 rw [spec_l1Stop_eq]
 exact stop_l3 v stopsL (by decide) 6 0 rfl
def lastV (z:ByteArray):ByteArray:=if stopB z = true then bs [] else z
theorem j6_ok (z:ByteArray):Zc3.j6 z = some (lastV z):=by
 have h:=contains_ok stopsL z (by decide)
 have h:Zao (((bs [97]) :: ((bs [97,110]) :: ((bs [97,110,100]) :: ((bs [111,102]) :: ((bs [116,104,101]) :: ((bs [116,111]) :: ([]:List ByteArray))))))),z) = some (stopB z):=h
 rw [Zc3.j6_eq,h,Zac]
 unfold lastV iteB
 cases stopB z <;> rfl
theorem j7_ok (z:ByteArray):Zcv.j7 z = some (lastV z):=by
 rw [Zcv.j7_eq,l1Stop_ok,Zac]
 unfold lastV iteB
 cases stopB z <;> rfl
theorem cut_all (y:ByteArray):cutS y 0 (lenS y) = y:=by
 apply toL_inj
 have:=Zg7 y 0 y.size
 rw [show ((0:Nat):Int) = 0 from rfl] at this
 unfold lenS
 rw [this]; simp [← Zdu]
theorem stems_j4 (z:ByteArray):∃ v,Zcv.j4 z = some v /\
  (iteB (ltI (3:Int) (lenS z)) (bindO (atS z (subI .i64 (lenS z) (1:Int))) (fun (y2:Int)=>iteB (eqI y2 (115:Int)) (bindO (atS z (subI .i64 (lenS z) (2:Int))) (fun (y3:Int)=>iteB (notB (eqI y3 (115:Int))) (iteB (Zfs (0:Int) (subI .i64 (lenS z) (1:Int)) (lenS z)) (Zc3.j6 (cutS z (0:Int) (subI .i64 (lenS z) (1:Int)))) (none)) (Zc3.j6 z))) (Zc3.j6 z))) (Zc3.j6 z)) = some v ∨ 1048576 < z.size:=by
 by_cases hz:z.size <= 1048576
 · rw [Zcv.j4_eq]
   simp only [j6_ok,j7_ok]
   by_cases h3:(3:Int) < lenS z
   · have h3':3 < z.size:=by unfold lenS at h3; omega
     rw [Zah,if_pos h3,Zd6,Zkf _ 1 (by omega) (by omega),Zkf _ 2 (by omega) (by omega),show (z.size:Int) - 1 = ((z.size - 1:Nat):Int) by omega,show (z.size:Int) - 2 = ((z.size - 2:Nat):Int) by omega,
      Zij z (z.size - 1) (by omega),Zij z (z.size - 2) (by omega),Zac,Zac,Zd5,if_pos (by omega)]
     unfold iteB
     cases eqI (Zfi z (z.size - 1)) 115 <;> cases notB (eqI (Zfi z (z.size - 2)) 115) <;> exact ⟨_,.inl ⟨rfl,rfl⟩⟩
   · rw [Zah,if_neg h3]
     exact ⟨_,.inl ⟨rfl,rfl⟩⟩
 · exact ⟨z,.inr (by omega)⟩
theorem foldI_size (s:ByteArray):(foldI s).size = s.size:=by
 unfold foldI strOf
 show (List.toArray _).size = _
 simp [rowOfS_len]
theorem stems_ok (w:ByteArray) (hw:w.size <= 1048576):∃ v,Zcv w = some v /\ Zc3 w = some v:=by
 have hf:=foldI_size w
 rw [spec_Stem_eq,impl_Stem_eq,sFold_ok w hw,iFold_ok w hw,Zac,Zac,Zah,Zd5]
 have hl:lenS (foldI w) = (w.size:Int):=by unfold lenS; rw [hf]
 by_cases h:(12:Int) < lenS (foldI w)
 · have hm:minI (lenS (foldI w)) 12 = 12:=by unfold minI; rw [if_pos h]
   rw [if_pos h,hm,Zd5,if_pos (by omega),if_pos (by omega)]
   obtain ⟨v,h1 | h1⟩:=stems_j4 (cutS (foldI w) 0 12)
   · exact ⟨v,h1.1,h1.2⟩
   · exfalso
     have:=Zg7 (foldI w) 0 12
     have h2:=congrArg List.length this
     rw [Zdu,List.length_take] at h2
     rw [show ((0:Nat):Int) = 0 from rfl,show ((12:Nat):Int) = 12 from rfl] at h2
     omega
 · have hm:minI (lenS (foldI w)) 12 = lenS (foldI w):=by unfold minI; rw [if_neg h]
   rw [if_neg h,hm,cut_all,Zd5,if_pos (by omega)]
   obtain ⟨v,h1 | h1⟩:=stems_j4 (foldI w)
   · exact ⟨v,h1.1,h1.2⟩
   · omega
def stemV (w:ByteArray):ByteArray:=(Zcv w).getD (bs [])
theorem sStem_ok (w:ByteArray) (hw:w.size <= 1048576):Zcv w = some (stemV w):=by
 obtain ⟨v,h,_⟩:=stems_ok w hw; unfold stemV; rw [h]; rfl
theorem iStem_ok (w:ByteArray) (hw:w.size <= 1048576):Zc3 w = some (stemV w):=by
 obtain ⟨v,h,k⟩:=stems_ok w hw; unfold stemV; rw [h,k]; rfl
theorem words_l6 (s:ByteArray) (hs:s.size <= 1048576) (i:Nat) (out:List (ByteArray × (Int × Int))):∀ (n k:Nat),k + n = s.size -> Zbb.l6 s k i out = Zbb.j8 s ((k + (((toL s).drop k).takeWhile alB).length:Nat):Int) i out
 | 0,k,e=>by
   have hd:(toL s).drop k = []:=List.drop_eq_nil_of_le (by rw [Zdu]; omega)
   rw [Zbb.l6_eq,Zah,Zd6,if_neg (by omega),hd]; rfl
 | n + 1,k,e=>by
   obtain ⟨b,hb,hd⟩:=Zdr (l:=toL s) (i:=k) (by rw [Zdu]; omega)
   rw [Zbb.l6_eq,Zah,Zd6,if_pos (by omega),atS_toL hb,Zac,wordByte_ok,Zac]
   have e1:alnumB (b.toNat:Int) = alB b:=rfl
   rw [e1,hd]
   cases ha:alB b with
   | true =>
     rw [Zeu,Zc5 (k:Int) 1 (by omega) (by omega)]
     have:=words_l6 s hs i out n (k + 1) (by omega)
     rw [show (k:Int) + 1 = ((k + 1:Nat):Int) by omega,this]
     simp only [List.takeWhile_cons,ha,if_true,List.length_cons]
     congr 2; omega
   | false =>
     rw [Ze7]
     simp [ha]
theorem words_end (i:Nat):Ze1 i [] = []:=by simp [Ze1,wl,fl]
theorem wordsI_l3 (s:ByteArray) (hs:s.size <= 1048576):∀ (n i:Nat) (out:List (ByteArray × (Int × Int))),s.size - i <= n -> i <= s.size + 1 -> out.length <= i -> Zbb.l3 s i out = some (out ++ (Ze1 i ((toL s).drop i)).map wOf)
 | n,i,out,hn,hi,ho=>by
   by_cases hlt:i < s.size
   · obtain ⟨b,hb,hd⟩:=Zdr (l:=toL s) (i:=i) (by rw [Zdu]; omega)
     have htl:(((toL s).drop i).takeWhile alB).length <= s.size - i:=by
      have:=(List.takeWhile_prefix alB (l:=(toL s).drop i)).length_le
      rw [List.length_drop,Zdu] at this; exact this
     rw [Zbb.l3_eq,Zah,Zd6,if_pos (by omega),words_l6 s hs i out (s.size - i) i (by omega),Zbb.j8_eq,Zah,Zd5,Zdb,Zd6]
     cases n with
     | zero=>omega
     | succ n =>
     by_cases h0:((toL s).drop i).takeWhile alB = []
     · rw [h0,if_neg (by simp),Zbb.j4_eq]
       simp only [List.length_nil,Nat.add_zero]
       rw [Zc5 (i:Int) 1 (by omega) (by omega),show (i:Int) + 1 = ((i + 1:Nat):Int) by omega,wordsI_l3 s hs n (i + 1) out (by omega) (by omega) (by omega)]
       have:alB b = false:=by
        rw [hd] at h0
        cases ha:alB b with
        | false=>rfl
        | true=>simp [ha] at h0
       rw [hd,wordsP_skip this]
     · have hpos:0 < (((toL s).drop i).takeWhile alB).length:=List.length_pos_iff.2 h0
       rw [if_pos (by omega),if_pos (by omega),if_pos (by simp; rw [Zcr]; omega),Zbb.j4_eq]
       unfold appL
       rw [Zc5 _ 1 (by omega) (by omega),show ((i + (((toL s).drop i).takeWhile alB).length:Nat):Int) + 1 = ((i + (((toL s).drop i).takeWhile alB).length + 1:Nat):Int) by omega,
        wordsI_l3 s hs n (i + (((toL s).drop i).takeWhile alB).length + 1) _ (by omega) (by omega) (by simp; omega)]
       rw [wordsP_take h0 i,List.map_cons,List.append_assoc,List.drop_drop]
       have hrest:Ze1 (i + (((toL s).drop i).takeWhile alB).length) ((toL s).drop (i + (((toL s).drop i).takeWhile alB).length)) = Ze1 (i + (((toL s).drop i).takeWhile alB).length + 1) ((toL s).drop (i + (((toL s).drop i).takeWhile alB).length + 1)):=by
        by_cases hk:i + (((toL s).drop i).takeWhile alB).length < s.size
        · obtain ⟨c,hc,hdc⟩:=Zdr (l:=toL s) (i:=i + (((toL s).drop i).takeWhile alB).length) (by rw [Zdu]; omega)
          have hnot:alB c = false:=by
           cases ha:alB c with
           | false=>rfl
           | true =>
             exfalso
             have e1:(toL s).drop i = ((toL s).drop i).takeWhile alB ++ c :: (toL s).drop (i + (((toL s).drop i).takeWhile alB).length + 1):=by
              rw [← hdc,← List.drop_drop]
              have:=List.takeWhile_append_dropWhile (p:=alB) (l:=(toL s).drop i)
              have hp:=List.prefix_iff_eq_take.1 (List.takeWhile_prefix alB (l:=(toL s).drop i))
              conv=>rhs; rw [hp]
              rw [List.length_take]
              have hmin:min (((toL s).drop i).takeWhile alB).length ((toL s).drop i).length = (((toL s).drop i).takeWhile alB).length:=by
               rw [List.length_drop,Zdu]; omega
              rw [hmin,List.take_append_drop]
             have e2:((toL s).drop i).takeWhile alB = ((toL s).drop i).takeWhile alB ++ c :: (((toL s).drop (i + (((toL s).drop i).takeWhile alB).length + 1)).takeWhile alB):=by
              conv=>lhs; rw [e1]
              rw [List.takeWhile_append_of_pos (fun z hz=>by
               exact List.all_eq_true.1 (List.all_takeWhile (l:=(toL s).drop i) (p:=alB)) z hz)]
              simp [ha]
             have:=congrArg List.length e2
             simp at this
          rw [hdc,wordsP_skip hnot]
        · have h1:(toL s).drop (i + (((toL s).drop i).takeWhile alB).length) = []:=List.drop_eq_nil_of_le (by rw [Zdu]; omega)
          have h2:(toL s).drop (i + (((toL s).drop i).takeWhile alB).length + 1) = []:=List.drop_eq_nil_of_le (by rw [Zdu]; omega)
          rw [h1,h2,words_end,words_end]
       rw [hrest]
       congr 2
       simp only [List.singleton_append,List.cons.injEq,and_true]
       unfold wOf
       congr 1
       rw [← Zit (cutS s _ _),Zg7]
       congr 1
       rw [Nat.add_sub_cancel_left]
       exact (List.prefix_iff_eq_take.1 (List.takeWhile_prefix alB)).symm
   · have h1:(toL s).drop i = []:=List.drop_eq_nil_of_le (by rw [Zdu]; omega)
     rw [Zbb.l3_eq,Zah,Zd6,if_neg (by omega),Zbb.j10_eq,h1,words_end]; simp
theorem iWords_ok (s:ByteArray) (hs:s.size <= 1048576):Zbb s = some ((Ze1 0 (toL s)).map wOf):=by
 rw [impl_Words_eq]
 have:=wordsI_l3 s hs s.size 0 [] (by omega) (by omega) (Nat.zero_le _)
 simpa using this
theorem textOk_ok (s:ByteArray) (hs:s.size <= 1048576):Zdl s = some ((toL s).all seenB && decide ((s.size:Int) <= 60)):=by
 rw [impl_textOk_eq,impl_plain_eq]
 have:=Zf9 (l:=fun i=>Zcd.l2 s 60 (lenS s) i) (n:=s.size) (p:=fun i=>decide (32 <= Zfi s i /\ Zfi s i <= 126)) (fin:=decide ((s.size:Int) <= 60)) (fun i hi=>?_) ?_ s.size 0 (by omega)
 · have e:=range_all s (fun b=>decide (32 <= b /\ b <= 126))
   rw [e] at this
   have h2:Zcd.l2 s 60 (lenS s) 0 = some ((toL s).all seenB && decide ((s.size:Int) <= 60)):=this
   rw [h2,Zac]
 · rw [Zcd.l2_eq,Zah,Zd6,if_pos (by omega),Zij s i hi,Zac]
   have hb:0 <= Zfi s i /\ Zfi s i <= 255:=by
    have hi':i < (toL s).length:=hi
    have:=atS_toL (List.getElem?_eq_getElem hi')
    rw [Zij s i hi] at this
    rw [Option.some.inj this]; exact byte_le _
   have hc:Zhv .i64 (Zfi s i) = Zfi s i:=IntWalk.i64_in _ ⟨by omega,by omega⟩
   rw [hc,Zgw,Zac,Zck,Zc5 (i:Int) 1 (by omega) (by omega)]
   unfold iteB
   rfl
 · rw [Zcd.l2_eq,Zah,Zd6,if_neg (by omega),Zcd.j7_eq]; rfl
abbrev WL:=List (ByteArray × (Int × Int))
section
variable (s:ByteArray) (terms:List ByteArray) (ht:terms.length <= 1048576) (W:WL) (hW:W.length <= 1048577) (hw:∀ w ∈ W,w.1.size <= 1048576)
end
def termOf (x:List UInt8):ByteArray:=stemV (toB x)
def textsOf (t:List UInt8):List (List UInt8):=(Ze1 0 t).map (·.1)
theorem words_bound (s:ByteArray) (hs:s.size <= 1048576):(Ze1 0 (toL s)).length <= 1048577 /\ ∀ w ∈ (Ze1 0 (toL s)).map wOf,w.1.size <= 1048576:=by
 have hlen:=wordsP_len (toL s) 0
 have hge:=lenW_ge (Ze1 0 (toL s))
 rw [Zdu] at hlen
 have hsize:∀ ws:List W3,∀ w ∈ ws,w.1.length + 1 <= lenW ws:=by
  intro ws
  induction ws with
  | nil=>intro w h; cases h
  | cons x r ih =>
    intro w h
    simp only [lenW]
    rcases List.mem_cons.1 h with rfl | h
    · omega
    · have:=ih w h; omega
 refine ⟨by omega,fun w h=>?_⟩
 obtain ⟨x,hx,rfl⟩:=List.mem_map.1 h
 have:=hsize _ x hx
 have e:(wOf x).1.size = x.1.length:=by unfold wOf toB; simp [ByteArray.size]
 rw [e]; omega
theorem terms_i3 (W:WL) (hW:W.length <= 1048577) (hw:∀ w ∈ W,w.1.size <= 1048576):∀ (n i:Nat) (out:List ByteArray),i + n = W.length -> out.length <= i ->
  Zb5.l3 (W.length:Int) i W out = some (out ++ (W.drop i).map (fun w=>stemV w.1))
 | 0,i,out,e,ho=>by
   have hd:W.drop i = []:=List.drop_eq_nil_of_le (by omega)
   rw [Zb5.l3_eq,Zah,if_neg (by omega),Zb5.j7_eq,hd]; simp
 | n + 1,i,out,e,ho=>by
   obtain ⟨x,hx,hd⟩:=Zdr (l:=W) (i:=i) (by omega)
   have c1:((i:Int) < (W.length:Int)) = True:=eq_true (by omega)
   have c2:((0:Int) <= (i:Int)) = True:=eq_true (by omega)
   have hxs:=hw x (List.mem_of_getElem? hx)
   rw [Zb5.l3_eq]
   simp only [Zah,Zdh,Zbg,Zcw,hx,Zac,c1,c2,if_true,iStem_ok x.1 hxs,Zdb]
   rw [if_pos (by simp; rw [Zcr]; omega),Zc5 (i:Int) 1 (by omega) (by omega),show (i:Int) + 1 = ((i + 1:Nat):Int) by omega]
   have hl:(appL out [stemV x.1]).length = out.length + 1:=by unfold appL; simp
   rw [terms_i3 W hW hw n (i + 1) _ (by omega) (by omega),hd,List.map_cons]
   unfold appL; simp
theorem iTerms_ok (s:ByteArray) (hs:s.size <= 1048576):Zb5 s = some ((textsOf (toL s)).map termOf):=by
 obtain ⟨h1,h2⟩:=words_bound s hs
 rw [impl_Terms_eq,iWords_ok s hs,Zac,Zbg]
 have:=terms_i3 ((Ze1 0 (toL s)).map wOf) (by rw [List.length_map]; exact h1) h2 _ 0 [] (Nat.zero_add _) (Nat.le_refl _)
 rw [show ((0:Nat):Int) = 0 from rfl] at this
 rw [this]
 unfold textsOf
 simp only [List.drop_zero,List.nil_append,List.map_map]
 rfl
section
variable (s:ByteArray) (hs:s.size <= 1048576) (terms:List ByteArray) (ht:terms.length <= 1048576) (m:Nat) (hm:1 <= m)
end
end Go.E
namespace Go.E
open Go
theorem xor_ok (a b:Int) (ha:0 <= a) (hb:0 <= b) (ha':a < 1099511627776) (hb':b < 1099511627776):0 <= xorI .i64 a b /\ xorI .i64 a b < 1099511627776:=by
 obtain ⟨m,rfl⟩:∃ m:Nat,a = (m:Int):=⟨a.toNat,by omega⟩
 obtain ⟨n,rfl⟩:∃ n:Nat,b = (n:Int):=⟨b.toNat,by omega⟩
 have hm:m < 2 ^ 40:=by omega
 have hn:n < 2 ^ 40:=by omega
 have e:(BitVec.ofInt Go.IntKind.i64.bits (m:Int) ^^^ BitVec.ofInt Go.IntKind.i64.bits (n:Int)).toNat = m ^^^ n:=by
  have hbits:Go.IntKind.i64.bits = 64:=rfl
  rw [BitVec.toNat_xor,BitVec.toNat_ofInt,BitVec.toNat_ofInt,hbits]
  have h1:((m:Int) % ((2 ^ 64:Nat):Int)).toNat = m:=by omega
  have h2:((n:Int) % ((2 ^ 64:Nat):Int)).toNat = n:=by omega
  rw [h1,h2]
 have hx:m ^^^ n < 2 ^ 40:=Nat.xor_lt_two_pow hm hn
 unfold xorI
 rw [e]
 have hw:Go.IntKind.i64.wrap ((m ^^^ n:Nat):Int) = ((m ^^^ n:Nat):Int):=IntWalk.i64_in _ ⟨by omega,by omega⟩
 rw [hw]; omega
def Zic (c:List Int):Prop:=c.length <= 2000 /\ ∀ b ∈ c,0 <= b /\ b <= 255
theorem mod_ok (a n:Int) (ha:0 <= a) (hn:0 < n):0 <= modI a n /\ modI a n < n:=by
 unfold modI
 exact ⟨Int.tmod_nonneg _ ha,Int.tmod_lt_of_pos _ hn⟩
theorem at_mod {c:List Int} (hc:Zic c) (h0:0 < c.length) (a:Int) (ha:0 <= a):∃ b,atL c (modI a (c.length:Int)) = some b /\ 0 <= b /\ b <= 255:=by
 obtain ⟨h1,h2⟩:=mod_ok a c.length ha (by omega)
 obtain ⟨h,e⟩:=atL_get c _ h1 h2
 exact ⟨_,e,hc.2 _ (List.getElem_mem h)⟩
theorem Ze6 {c:List Int} (hc:Zic c) {p n:Int} (hp:0 <= p) (hp':p <= 1000000) (hn:1 <= n) (hn':n <= 1000):∃ v,Zap ((c,p),n) = some (v,(c,p + 1)) /\ 0 <= v /\ v < n:=by
 rw [spec_l1Rd_pick_eq,Zc5 p 1 (by omega) (by omega),Zkf (p + 1) 1 (by omega) (by omega),show p + 1 - 1 = p by omega]
 simp only [Zah,Zci,Zbg]
 rw [if_neg (by omega)]
 by_cases h0:(c.length:Int) = 0
 · rw [if_pos h0]; exact ⟨0,rfl,by omega,by omega⟩
 · have hlen:0 < c.length:=by omega
   have hl2:=hc.1
   have hconv:∀ b:Int,0 <= b -> b <= 255 -> Zhv .i64 b = b:=fun b h1 h2=>IntWalk.i64_in _ ⟨by omega,by omega⟩
   rw [if_neg h0]
   by_cases hlt:p < (c.length:Int)
   · rw [if_pos hlt]
     obtain ⟨h,e⟩:=atL_get c p hp hlt
     have hb:=hc.2 _ (List.getElem_mem h)
     rw [e,Zac,if_neg (by omega),hconv _ hb.1 hb.2]
     exact ⟨_,rfl,mod_ok _ _ hb.1 (by omega)⟩
   · rw [if_neg hlt,if_neg h0]
     obtain ⟨b1,e1,k1,k2⟩:=at_mod hc hlen p hp
     have em:mulI .i64 p 7 = p * 7:=IntWalk.i64_in _ ⟨by omega,by omega⟩
     obtain ⟨b2,e2,k3,k4⟩:=at_mod hc hlen (p * 7 + 3) (by omega)
     rw [e1,Zac,if_neg h0,em,Zc5 (p * 7) 3 (by omega) (by omega),e2,Zac,if_neg h0,if_neg (by omega),if_neg (by omega),hconv b1 k1 k2,hconv b2 k3 k4]
     have m1:mulI .i64 b1 131 = b1 * 131:=IntWalk.i64_in _ ⟨by omega,by omega⟩
     have m2:mulI .i64 b2 1117 = b2 * 1117:=IntWalk.i64_in _ ⟨by omega,by omega⟩
     have m3:mulI .i64 p 29 = p * 29:=IntWalk.i64_in _ ⟨by omega,by omega⟩
     have hd:0 <= p.tdiv c.length /\ p.tdiv c.length <= p:=by
      rw [Int.tdiv_eq_ediv_of_nonneg hp]
      exact ⟨Int.ediv_nonneg hp (by omega),Int.ediv_le_self _ hp⟩
     have d1:divI .i64 p (c.length:Int) = p.tdiv c.length:=IntWalk.i64_in _ ⟨by omega,by omega⟩
     have m4:mulI .i64 (p.tdiv c.length) 53 = p.tdiv c.length * 53:=IntWalk.i64_in _ ⟨by omega,by omega⟩
     rw [m1,m2,m3,d1,m4,Zc5 (b1 * 131) (b2 * 1117) (by omega) (by omega),Zc5 (b1 * 131 + b2 * 1117) (p * 29) (by omega) (by omega),Zc5 (b1 * 131 + b2 * 1117 + p * 29) _ (by omega) (by omega)]
     have hx0:0 <= b1 * 131 + b2 * 1117 + p * 29 + p.tdiv c.length * 53 /\ b1 * 131 + b2 * 1117 + p * 29 + p.tdiv c.length * 53 <= 1000000000:=by omega
     generalize b1 * 131 + b2 * 1117 + p * 29 + p.tdiv c.length * 53 = x at hx0
     have hd2:0 <= x.tdiv 64 /\ x.tdiv 64 <= x:=by
      rw [Int.tdiv_eq_ediv_of_nonneg hx0.1]
      exact ⟨Int.ediv_nonneg hx0.1 (by omega),Int.ediv_le_self _ hx0.1⟩
     have d2:divI .i64 x 64 = x.tdiv 64:=IntWalk.i64_in _ ⟨by omega,by omega⟩
     rw [d2]
     have hxx:=xor_ok x (x.tdiv 64) hx0.1 hd2.1 (by omega) (by omega)
     exact ⟨_,rfl,mod_ok _ _ hxx.1 (by omega)⟩
theorem Zfr {c:List Int} (hc:Zic c) {p:Int} (hp:0 <= p) (hp':p <= 1000000) (l:List ByteArray) (h1:1 <= l.length) (h2:l.length <= 1000):∃ s ∈ l,Zbm ((c,p),l) = some (s,(c,p + 1)):=by
 obtain ⟨v,e,k1,k2⟩:=Ze6 hc hp hp' (n:=(l.length:Int)) (by omega) (by omega)
 obtain ⟨h,e2⟩:=atL_get l v k1 k2
 refine ⟨_,List.getElem_mem h,?_⟩
 rw [spec_l1Rd_of_eq]
 simp only [Zbg,e,Zac,e2]
theorem open_ok (c:List Int) (hc:∀ b ∈ c,0 <= b /\ b <= 255):∃ d,Zcs c = some (d,0) /\ Zic d:=by
 rw [spec_l1Open_eq,Zah,Zbg]
 by_cases h:(2000:Int) < (c.length:Int)
 · rw [if_pos h,Zd5,if_pos (by omega),Zcs.j3_eq]
   refine ⟨_,rfl,?_,fun b hb=>?_⟩
   · unfold cutL; simp; omega
   · unfold cutL at hb
     exact hc b (List.mem_of_mem_take (by simpa using hb))
 · rw [if_neg h,Zcs.j3_eq]
   exact ⟨_,rfl,by omega,hc⟩
theorem Zir (a b:ByteArray):(catS a b).size = a.size + b.size:=by rw [← Zdu,toL_cat,List.length_append,Zdu,Zdu]
theorem many_l2:∀ (k:Nat) (a b:ByteArray) (h:Int) (B:Nat),0 <= h -> h <= 1000 -> h < 2 ^ k -> a.size <= B -> b.size <= B -> B * 2 ^ k <= 1000000 -> ∃ v,Zbj.l2 a h b = some v /\ v.size <= B * 2 ^ k
 | 0,a,b,h,B,h0,hm,h1,ha,hb,hB=>by
   have:h < 1:=by simpa using h1
   rw [Zbj.l2_eq,Zah,if_neg (by omega),Zbj.j7_eq]
   exact ⟨b,rfl,by omega⟩
 | k + 1,a,b,h,B,h0,hm,h1,ha,hb,hB=>by
   have hp:(2:Nat) ^ (k + 1) = 2 ^ k * 2:=Nat.pow_succ 2 k
   have hp':(2:Int) ^ (k + 1) = 2 ^ k * 2:=Int.pow_succ 2 k
   have hk1:1 <= (2:Nat) ^ k:=Nat.one_le_two_pow
   have hBB:B * 2 ^ (k + 1) = 2 * B * 2 ^ k:=by rw [hp,← Nat.mul_assoc,Nat.mul_comm,← Nat.mul_assoc]
   have hB2:2 * B <= 1000000:=Nat.le_trans (Nat.le_mul_of_pos_right _ hk1) (hBB ▸ hB)
   rw [Zbj.l2_eq,Zah]
   by_cases hp:0 < h
   · rw [if_pos hp]
     have hd:divI .i64 h 2 = h / 2:=by
      have e:h.tdiv 2 = h / 2:=Int.tdiv_eq_ediv_of_nonneg h0
      have:divI .i64 h 2 = h.tdiv 2:=IntWalk.i64_in _ ⟨by omega,by omega⟩
      rw [this,e]
     have j5:∀ c:ByteArray,c.size <= 2 * B -> ∃ v,Zbj.j5 a h c = some v /\ v.size <= B * 2 ^ (k + 1):=fun c hc=>by
      rw [Zbj.j5_eq,Zh6,if_pos (by rw [Zcr]; omega),Zci,if_neg (by omega),hd]
      obtain ⟨v,e1,e2⟩:=many_l2 k (catS a a) c (h / 2) (2 * B) (by omega) (by omega) (by omega) (by rw [Zir]; omega) hc (hBB ▸ hB)
      exact ⟨v,e1,hBB ▸ e2⟩
     rw [Zci,if_neg (by omega),Zci]
     split
     · rw [Zh6,if_pos (by rw [Zcr]; omega)]
       exact j5 _ (by rw [Zir]; omega)
     · exact j5 b (by omega)
   · rw [if_neg hp,Zbj.j7_eq]
     exact ⟨b,rfl,Nat.le_trans hb (Nat.le_mul_of_pos_right _ (by omega))⟩
theorem many_ok (a:ByteArray) (ha:a.size <= 1) (n:Int) (h0:0 <= n) (h1:n < 64):∃ v,Zbj (a,n) = some v /\ v.size <= 64:=by
 rw [spec_l1Many_eq]
 exact many_l2 6 a (bs []) n 1 h0 (by omega) h1 ha (by decide) (by decide)
theorem word_draw {c:List Int} (hc:Zic c) {p:Int} (hp:0 <= p) (hp':p <= 1000000):∃ s,Zdd (c,p) = some (s,(c,p + 1)) /\ s.size <= 100:=by
 obtain ⟨s,hs,e⟩:=Zfr hc hp hp' [bs [114,101,100],bs [82,101,100],bs [97,112,112,108,101],bs [97,112,112,108,101,115],bs [112,105,101],bs [116,104,101],bs [111,102],bs [103,108,97,115,115],bs [98,117,115],bs [116,114,101,101],bs [116,114,101,101,115],bs [55],bs [118,101,114,121,108,111,110,103,119,111,114,100,105,110,100,101,101,100],bs [97]] (by simp) (by simp)
 refine ⟨s,?_,?_⟩
 · rw [spec_l11Word_eq]; simp only [e,Zac]
 · have:∀ s ∈ [bs [114,101,100],bs [82,101,100],bs [97,112,112,108,101],bs [97,112,112,108,101,115],bs [112,105,101],bs [116,104,101],bs [111,102],bs [103,108,97,115,115],bs [98,117,115],bs [116,114,101,101],bs [116,114,101,101,115],bs [55],bs [118,101,114,121,108,111,110,103,119,111,114,100,105,110,100,101,101,100],bs [97]],s.size <= 100:=by decide
   exact this s hs
theorem text_l3 {c:List Int} (hc:Zic c):∀ (n:Nat) (acc:ByteArray) (p:Int),n <= 6 -> 0 <= p -> p + 2 * (n:Int) <= 100000 -> acc.size + 200 * n <= 5000 -> ∃ acc' p',Zba.l3 acc n c p = some (acc',(c,p')) /\ acc'.size <= acc.size + 200 * n /\ 0 <= p' /\ p' <= p + 2 * n
 | 0,acc,p,hn,hp,hp',h=>by
   rw [Zba.l3_eq,Zah,if_neg (by omega),Zba.j6_eq]
   exact ⟨acc,p,rfl,by omega,by omega,by omega⟩
 | n + 1,acc,p,hn,hp,hp',h=>by
   obtain ⟨s,e1,hs⟩:=word_draw hc hp (by omega)
   obtain ⟨z,hz,e2⟩:=Zfr hc (p:=p + 1) (by omega) (by omega) [bs [32],bs [44,32],bs [45],bs [32],bs [46]] (by simp) (by simp)
   have hzs:z.size <= 100:=by
    have:∀ s ∈ [bs [32],bs [44,32],bs [45],bs [32],bs [46]],s.size <= 100:=by decide
    exact this z hz
   have hcs:(catS (catS acc s) z).size <= acc.size + 200:=by rw [Zir,Zir]; omega
   rw [Zba.l3_eq,Zah,if_pos (by omega),e1,Zac]
   simp only [Zh6]
   rw [if_pos (by rw [Zcr]; omega),e2,Zac]
   simp only [Zir]
   rw [if_pos (by rw [Zcr]; omega),Zkf ((n + 1:Nat):Int) 1 (by omega) (by omega),show ((n + 1:Nat):Int) - 1 = (n:Int) by omega]
   obtain ⟨acc',p',e3,h3,h4,h5⟩:=text_l3 hc n (catS (catS acc s) z) (p + 1 + 1) (by omega) (by omega) (by omega) (by omega)
   exact ⟨acc',p',e3,by omega,h4,by omega⟩
theorem text_draw {c:List Int} (hc:Zic c) {p:Int} (hp:0 <= p) (hp':p <= 2000):∃ s p',Zba (c,p) = some (s,(c,p')) /\ s.size <= 2000 /\ 0 <= p' /\ p' <= p + 20:=by
 obtain ⟨v,e,k1,k2⟩:=Ze6 hc hp (by omega) (n:=6) (by omega) (by omega)
 rw [spec_l11Text_eq]
 simp only [e,Zac]
 obtain ⟨n,rfl⟩:∃ n:Nat,v = (n:Int):=⟨v.toNat,by omega⟩
 have hz:(bs []).size = 0:=rfl
 obtain ⟨acc',p',e3,h3,h4,h5⟩:=text_l3 hc n (bs []) (p + 1) (by omega) (by omega) (by omega) (by omega)
 exact ⟨acc',p',e3,by omega,h4,by omega⟩
theorem anyText_draw {c:List Int} (hc:Zic c) {p:Int} (hp:0 <= p) (hp':p <= 1000):∃ s p',Zct (c,p) = some (s,(c,p')) /\ s.size <= 3000 /\ 0 <= p' /\ p' <= p + 30:=by
 rw [spec_l11AnyText_eq]
 obtain ⟨v,e,k1,k2⟩:=Ze6 hc hp (by omega) (n:=14) (by omega) (by omega)
 simp only [e,Zac,Zci]
 by_cases h0:v = 0
 · rw [if_pos h0]
   obtain ⟨w,e2,k3,k4⟩:=Ze6 hc (p:=p + 1) (by omega) (by omega) (n:=2) (by omega) (by omega)
   obtain ⟨z,e3,hz⟩:=many_ok (bs [120]) (by decide) (60 + w) (by omega) (by omega)
   rw [e2,Zac]
   simp only
   rw [Zc5 60 w (by omega) (by omega),e3,Zac]
   exact ⟨z,_,rfl,by omega,by omega,by omega⟩
 · rw [if_neg h0]
   obtain ⟨t,p1,e2,h1,h2,h3⟩:=text_draw hc (p:=p + 1) (by omega) (by omega)
   simp only [e2,Zac]
   by_cases hv1:v = 1
   · rw [if_pos hv1]
     obtain ⟨z,hz,e3⟩:=Zfr hc (p:=p1) (by omega) (by omega) [bs [10],bs [1],bs [127]] (by simp) (by simp)
     have hzs:z.size <= 100:=by
      have:∀ s ∈ [bs [10],bs [1],bs [127]],s.size <= 100:=by decide
      exact this z hz
     rw [e3,Zac]
     simp only [Zh6]
     rw [if_pos (by rw [Zcr]; omega)]
     exact ⟨_,_,rfl,by rw [Zir]; omega,by omega,by omega⟩
   · rw [if_neg hv1]
     exact ⟨t,p1,rfl,by omega,by omega,by omega⟩
end Go.E
namespace Go.E
open Go
theorem lim_const {α:Type} {f:Nat -> Option α} {c:α} (h0:f 0 = none) (h:∀ k,f (k + 1) = some c):lim f = some c :=
 lim_eq (fun k k' r r' e e'=>by
  cases k with
  | zero=>rw [h0] at e; cases e
  | succ k=>cases k' with
    | zero=>rw [h0] at e'; cases e'
    | succ k'=>rw [h] at e e'; cases e; cases e'; rfl) (h 0)
theorem dec_digit (n:Int) (h0:0 <= n) (h9:n < 10):∃ s,Zb8 n = some s /\ s.size = 1:=by
 refine ⟨strOf [Zhv Go.IntKind.u8 (addI .i64 48 n)],?_,rfl⟩
 unfold Zb8
 refine lim_const rfl (fun k=>?_)
 show Zb8.step (Zb8.fam k) n = _
 rw [Zb8.step_eq,Zah,if_neg (by omega),Zah,if_neg (by omega),Zah,if_pos (by omega)]
end Go.E
namespace Go.E
open Go
theorem appL_eq {α:Type} (a b:List α):appL a b = a ++ b:=rfl
theorem addP_cases {p:Pst} (hp:p ≠ []) (hl:p.length <= 1000000000000) (doc a:Int):∃ q x,p = q ++ [x] /\ subI .i64 (lenL p) 1 = (q.length:Int) /\ atL p (q.length:Int) = some x /\
  addP p doc a = if x.1 = doc then setL p (q.length:Int) (x.1,appL x.2 [a]) else appL p [(doc,[a])]:=by
 obtain ⟨q,x,rfl⟩:∃ q x,p = q ++ [x]:=⟨p.dropLast,p.getLast hp,(List.dropLast_concat_getLast hp).symm⟩
 have hlen:(q ++ [x]).length = q.length + 1:=by simp
 refine ⟨q,x,rfl,?_,?_,?_⟩
 · rw [Zbg,hlen,Zkf _ _ (by omega) (by omega)]; omega
 · rw [Zcw]; simp
 · unfold addP
   rw [List.getLast?_append]
   simp only [List.getLast?_singleton,Option.some_or]
   split
   · rename_i h
     unfold setL
     rw [Int.toNat_natCast,List.set_append_right _ _ (Nat.le_refl _)]
     simp [h,appL]
   · rfl
def Bd (l:List Ent) (N:Nat):Prop:=l.length <= N /\ ∀ e ∈ l,e.2.2 ≠ [] /\ e.2.2.length <= N /\ ∀ x ∈ e.2.2,x.2.length <= N
theorem addP_bd {p:Pst} {N:Nat} (h1:p.length <= N) (h2:∀ x ∈ p,x.2.length <= N) (doc a:Int):(addP p doc a).length <= N + 1 /\ ∀ x ∈ addP p doc a,x.2.length <= N + 1:=by
 unfold addP
 split
 · rename_i y hy
   have hym:y ∈ p:=List.mem_of_getLast? hy
   split
   · refine ⟨by simp; omega,fun x hx=>?_⟩
     rcases List.mem_append.1 hx with h | h
     · have:=h2 x (List.dropLast_subset _ h); omega
     · rw [List.mem_singleton.1 h]; have:=h2 y hym; simp; omega
   · refine ⟨by simp; omega,fun x hx=>?_⟩
     rcases List.mem_append.1 hx with h | h
     · have:=h2 x h; omega
     · rw [List.mem_singleton.1 h]; simp
 · refine ⟨by simp,fun x hx=>?_⟩
   rw [List.mem_singleton.1 hx]; simp
theorem insE_bd {l:List Ent} {N:Nat} (h:Bd l N) (k:Key) (doc a:Int):Bd (insE kLt l k doc a) (N + 1):=by
 obtain ⟨h1,h2⟩:=h
 have hnew:(mkE k [(doc,[a])]).2.2 ≠ [] /\ (mkE k [(doc,[a])]).2.2.length <= N + 1 /\ ∀ x ∈ (mkE k [(doc,[a])]).2.2,x.2.length <= N + 1:=by
  have e:(mkE k [(doc,[a])]).2.2 = [(doc,[a])]:=rfl
  rw [e]
  refine ⟨by simp,by simp,fun x hx=>?_⟩
  rw [List.mem_singleton.1 hx]; simp
 have hold:∀ e ∈ l,e.2.2 ≠ [] /\ e.2.2.length <= N + 1 /\ ∀ x ∈ e.2.2,x.2.length <= N + 1:=fun e he=>by
  obtain ⟨g1,g2,g3⟩:=h2 e he
  exact ⟨g1,by omega,fun x hx=>by have:=g3 x hx; omega⟩
 unfold insE
 simp only
 split
 · rename_i e he
   have hem:e ∈ l:=List.mem_of_getElem? he
   split
   · refine ⟨by simp; omega,fun y hy=>?_⟩
     rcases List.mem_or_eq_of_mem_set hy with h | h
     · exact hold y h
     · rw [h]
       obtain ⟨g1,g2,g3⟩:=h2 e hem
       have:=addP_bd g2 g3 doc a
       exact ⟨addP_ne _ _ _,this.1,this.2⟩
   · refine ⟨?_,fun y hy=>?_⟩
     · have:(l.take (l.takeWhile (fun e=>kLt (kOf e) k)).length ++ mkE k [(doc,[a])] :: l.drop (l.takeWhile (fun e=>kLt (kOf e) k)).length).length = l.length + 1:=by
         rw [List.length_append,List.length_cons,List.length_take,List.length_drop]
         have:=(List.takeWhile_prefix (p:=fun e=>kLt (kOf e) k) (l:=l)).length_le
         omega
       omega
     · rcases List.mem_append.1 hy with h | h
       · exact hold y (List.mem_of_mem_take h)
       · rcases List.mem_cons.1 h with h | h
         · rw [h]; exact hnew
         · exact hold y (List.mem_of_mem_drop h)
 · refine ⟨by simp; omega,fun y hy=>?_⟩
   rcases List.mem_append.1 hy with h | h
   · exact hold y h
   · rw [List.mem_singleton.1 h]; exact hnew
def Zhr (l:List Ent) (k:Key):Nat:=(l.takeWhile (fun e=>kLt (kOf e) k)).length
theorem keyAt_le (l:List Ent) (k:Key):Zhr l k <= l.length:=(List.takeWhile_prefix _).length_le
theorem l4At_l2 (l:List Ent) (f t:ByteArray) (hl:l.length <= 1000000000000):∀ (n i:Nat),i + n = l.length -> Zcj.l2 l f t i = Zcj.j4 l f t ((i + ((l.drop i).takeWhile (fun e=>kLt (kOf e) (f,t))).length:Nat):Int)
 | 0,i,hi=>by
   rw [Zcj.l2_eq,Zah,Zbg,if_neg (by omega),List.drop_eq_nil_of_le (by omega)]
   simp
 | n + 1,i,hi=>by
   obtain ⟨e,he,hd⟩:=Zdr (l:=l) (i:=i) (by omega)
   have ih:=l4At_l2 l f t hl n (i + 1) (by omega)
   have hnext:addI .i64 (i:Int) 1 = ((i + 1:Nat):Int):=by rw [Zc5 _ _ (by omega) (by omega)]; omega
   rw [Zcj.l2_eq,Zah,Zbg,if_pos (by omega),Zcw,he]
   simp only [Zac]
   rw [hd,List.takeWhile_cons,hnext]
   have hk:kLt (kOf e) (f,t) = (ltS e.1 f || (eqS e.1 f && ltS e.2.1 t)):=rfl
   rw [hk]
   cases h1:ltS e.1 f with
   | true =>
     rw [Zeu,ih]
     simp only [Bool.true_or,if_true,List.length_cons]
     congr 1; congr 1; omega
   | false =>
     rw [Ze7]
     cases h2:eqS e.1 f with
     | true =>
       rw [Zeu]
       cases h3:ltS e.2.1 t with
       | true =>
         rw [Zeu,ih]
         simp only [Bool.or_true,Bool.and_self,if_true,List.length_cons]
         congr 1; congr 1; omega
       | false=>rw [Ze7]; simp
     | false=>rw [Ze7]; simp
theorem l4At_ok (l:List Ent) (f t:ByteArray) (hl:l.length <= 1000000000000):Zcj (l,(f,t)) = some ((Zhr l (f,t):Int),match l[Zhr l (f,t)]? with | some e=>decide (kOf e = (f,t)) | none=>false):=by
 rw [spec_l4At_eq,show (0:Int) = ((0:Nat):Int) from rfl,l4At_l2 l f t hl l.length 0 (by omega),List.drop_zero,Nat.zero_add]
 show Zcj.j4 l f t ((Zhr l (f,t):Nat):Int) = _
 rw [Zcj.j4_eq,Zah,Zbg,Zcw]
 by_cases h:Zhr l (f,t) < l.length
 · rw [if_pos (by omega),List.getElem?_eq_getElem h]
   simp only [Zac]
   generalize l[Zhr l (f,t)] = e
   rw [Zef]
   unfold kOf eqS
   by_cases h1:e.1 = f
   · rw [if_pos h1]; simp [h1]
   · rw [if_neg h1]; simp [h1]
 · rw [if_neg (by omega),List.getElem?_eq_none (by omega)]
theorem l4Word_ok {l:List Ent} {N:Nat} (h:Bd l N) (hN:N < 274877906944) (f t:ByteArray) (doc a:Int):Zbo (l,(f,(t,(doc,a)))) = some (insE kLt l (f,t) doc a):=by
 have hle:=keyAt_le l (f,t)
 have hlN:=h.1
 rw [spec_l4Word_eq,l4At_ok l f t (by omega),Zac]
 have out:∀ e?:Option Ent,l[Zhr l (f,t)]? = e? -> (∀ e,e? = some e -> kOf e ≠ (f,t)) ->
   Zbo.j100004 ((Zhr l (f,t):Nat):Int) f t ((doc,(a :: [])) :: []) l = some (insE kLt l (f,t) doc a):=fun e? he hne=>by
  have hins:insE kLt l (f,t) doc a = l.take (Zhr l (f,t)) ++ mkE (f,t) [(doc,[a])] :: l.drop (Zhr l (f,t)):=by
   unfold insE
   simp only
   rw [show (l.takeWhile (fun e=>kLt (kOf e) (f,t))).length = Zhr l (f,t) from rfl,he]
   cases e? with
   | some e=>simp only; rw [if_neg (hne e rfl)]
   | none =>
     simp only
     have:l.length <= Zhr l (f,t):=by
      have:=List.getElem?_eq_none_iff.1 he; exact this
     rw [List.take_of_length_le this,List.drop_eq_nil_of_le this]
  have c1:cutL l 0 ((Zhr l (f,t):Nat):Int) = l.take (Zhr l (f,t)):=by unfold cutL; simp
  have c2:cutL l ((Zhr l (f,t):Nat):Int) (lenL l) = l.drop (Zhr l (f,t)):=by unfold cutL lenL; simp
  have n1:(l.take (Zhr l (f,t))).length <= N:=by rw [List.length_take]; omega
  rw [Zbo.j100004_eq,c1,c2]
  simp only [appL_eq,List.nil_append]
  rw [Zd5,Zbg,if_pos (by omega),Zci,if_pos rfl,Zdb,if_pos (by rw [Zcr]; simp; omega),Zdb,if_pos (by rw [Zcr]; simp; omega),Zd5,if_pos (by omega),Zci,if_pos rfl,Zdb,if_pos (by rw [Zcr]; simp; omega)]
  rw [hins,List.append_assoc]
  rfl
 cases he:l[Zhr l (f,t)]? with
 | none =>
   simp only [notB,Bool.not_false,Zeu]
   exact out none he (fun e h=>nomatch h)
 | some e =>
   simp only
   by_cases hk:kOf e = (f,t)
   · have hlt:Zhr l (f,t) < l.length:=(List.getElem?_eq_some_iff.1 he).1
     have hem:e ∈ l:=List.mem_of_getElem? he
     obtain ⟨g1,g2,g3⟩:=h.2 e hem
     obtain ⟨q,x,p1,p2,p3,p4⟩:=addP_cases g1 (by omega) doc a
     have hql:q.length < e.2.2.length:=by rw [p1]; simp
     have hxm:x ∈ e.2.2:=by rw [p1]; simp
     have hx2:=g3 x hxm
     have hins:insE kLt l (f,t) doc a = l.set (Zhr l (f,t)) (mkE (f,t) (addP e.2.2 doc a)):=by
      unfold insE
      simp only
      rw [show (l.takeWhile (fun e=>kLt (kOf e) (f,t))).length = Zhr l (f,t) from rfl,he]
      simp only
      rw [if_pos hk]
     have hset:∀ p:Pst,setL l ((Zhr l (f,t):Nat):Int) (e.1,(e.2.1,p)) = l.set (Zhr l (f,t)) (mkE (f,t) p):=fun p=>by
      unfold setL; rw [Int.toNat_natCast]
      have e1:e.1 = f:=congrArg Prod.fst hk
      have e2:e.2.1 = t:=congrArg Prod.snd hk
      rw [e1,e2]; rfl
     rw [show decide (kOf e = (f,t)) = true from decide_eq_true hk]
     simp only [notB,Bool.not_true,Ze7]
     rw [Zdh,if_pos (by omega),Zah,Zbg,if_pos (by omega),Zcw,he]
     simp only [Zac]
     rw [p2,Zdh,if_pos (by omega),Zah,Zbg,if_pos (by omega),p3]
     simp only [Zac]
     rw [Zci]
     by_cases hx:x.1 = doc
     · rw [if_pos hx,Zdh,if_pos (by omega),Zah,if_pos (by omega),Zdb,if_pos (by rw [Zcr]; simp; omega),Zdh,if_pos (by omega),Zah,if_pos (by omega),Zci,if_pos rfl,Zbo.j10_eq,hset,hins,p4,if_pos hx]
     · rw [if_neg hx,Zdb,if_pos (by rw [Zcr]; simp; omega),Zdh,if_pos (by omega),Zah,if_pos (by omega),Zci,if_pos rfl,Zbo.j10_eq,hset,hins,p4,if_neg hx]
   · rw [show decide (kOf e = (f,t)) = false from decide_eq_false hk]
     simp only [notB,Bool.not_false,Zeu]
     exact out (some e) he (fun e' h=>by cases h; exact hk)
end Go.E
namespace Go.E
open Go
def Zf5 (s:ByteArray):List ByteArray:=(textsOf (toL s)).map termOf
theorem termsV_len (s:ByteArray) (hs:s.size <= 1048576):(Zf5 s).length <= 1048577:=by
 have:=(words_bound s hs).1
 unfold Zf5 textsOf; simpa using this
theorem termsV_len2 (s:ByteArray):(Zf5 s).length <= s.size + 1:=by
 have h1:=wordsP_len (toL s) 0
 have h2:=lenW_ge (Ze1 0 (toL s))
 rw [Zdu] at h1
 have:(Zf5 s).length = (Ze1 0 (toL s)).length:=by unfold Zf5 textsOf; simp
 omega
theorem terms_s4 (W:WL) (hW:W.length <= 1048577) (hw:∀ w ∈ W,w.1.size <= 1048576):∀ (n i:Nat) (out:List ByteArray),i + n = W.length -> out.length <= i ->
  Zca.l4 i W out = some (out ++ (W.drop i).map (fun w=>stemV w.1))
 | 0,i,out,e,ho=>by
   have hd:W.drop i = []:=List.drop_eq_nil_of_le (by omega)
   rw [Zca.l4_eq,Zah,Zbg,if_neg (by omega),Zca.j7_eq,hd]; simp
 | n + 1,i,out,e,ho=>by
   obtain ⟨x,hx,hd⟩:=Zdr (l:=W) (i:=i) (by omega)
   have c1:((i:Int) < (W.length:Int)) = True:=eq_true (by omega)
   have c2:((0:Int) <= (i:Int)) = True:=eq_true (by omega)
   have hxs:=hw x (List.mem_of_getElem? hx)
   rw [Zca.l4_eq]
   simp only [Zah,Zdh,Zbg,Zcw,hx,Zac,c1,c2,if_true,sStem_ok x.1 hxs,Zdb]
   rw [if_pos (by simp; rw [Zcr]; omega),Zc5 (i:Int) 1 (by omega) (by omega),show (i:Int) + 1 = ((i + 1:Nat):Int) by omega]
   have hl:(appL out [stemV x.1]).length = out.length + 1:=by unfold appL; simp
   rw [terms_s4 W hW hw n (i + 1) _ (by omega) (by omega),hd,List.map_cons]
   unfold appL; simp
theorem sTerms_ok (s:ByteArray) (hs:s.size <= 1048576):Zca s = some (Zf5 s):=by
 obtain ⟨h1,h2⟩:=words_bound s hs
 rw [spec_Terms_eq,sWords_ok s hs,Zac]
 have:=terms_s4 ((Ze1 0 (toL s)).map wOf) (by rw [List.length_map]; exact h1) h2 _ 0 [] (Nat.zero_add _) (Nat.le_refl _)
 rw [show ((0:Nat):Int) = 0 from rfl] at this
 rw [this]
 unfold Zf5 textsOf
 simp only [List.drop_zero,List.nil_append,List.map_map]
 rfl
theorem iTermsV (s:ByteArray) (hs:s.size <= 1048576):Zb5 s = some (Zf5 s):=iTerms_ok s hs
def Zeo:FLs -> ByteArray -> Option Int
 | [],_=>none
 | f :: r,n=>if f.1 = n then some f.2.1 else Zeo r n
theorem kindOf_nil (n:ByteArray):Zeo [] n = none:=rfl
theorem kindOf_cons (f:FT) (r:FLs) (n:ByteArray):Zeo (f :: r) n = if f.1 = n then some f.2.1 else Zeo r n:=rfl
theorem Zhw (l:FLs) (v:ByteArray) (hl:l.length <= 1048576):∀ (n i:Nat),i + n = l.length ->
  (Zax.l2 l v i = some (-1) /\ Zeo (l.drop i) v = none) ∨ ∃ (j:Nat) (f:FT),Zax.l2 l v i = some (j:Int) /\ l[j]? = some f /\ f.1 = v /\ Zeo (l.drop i) v = some f.2.1
 | 0,i,e=>.inl ⟨by rw [Zax.l2_eq,Zah,Zbg,if_neg (by omega),Zax.j6_eq],by rw [List.drop_eq_nil_of_le (by omega),kindOf_nil]⟩
 | n + 1,i,e=>by
   obtain ⟨x,hx,hd⟩:=Zdr (l:=l) (i:=i) (by omega)
   rw [Zax.l2_eq,Zah,Zbg,if_pos (by omega),Zcw,hx,Zac,Zef,hd,kindOf_cons,Zc5 _ _ (by omega) (by omega),show (i:Int) + 1 = ((i + 1:Nat):Int) by omega]
   by_cases h:x.1 = v
   · rw [if_pos h,if_pos h]
     exact .inr ⟨i,x,rfl,hx,h,rfl⟩
   · rw [if_neg h,if_neg h]
     exact Zhw l v hl n (i + 1) (by omega)
theorem sKind_ok (l:FLs) (v:ByteArray) (k:Int) (hl:l.length <= 1048576):Zc9 (l,(v,k)) = some (decide (Zeo l v = some k)):=by
 rw [spec_l2Kind_eq,Zf6]
 rcases Zhw l v hl l.length 0 (by omega) with ⟨h1,h2⟩ | ⟨j,f,h1,h2,h3,h4⟩
 · rw [show (0:Int) = ((0:Nat):Int) from rfl,h1,Zac,Zdh,if_neg (by omega)]
   rw [List.drop_zero] at h2
   rw [h2]; simp
 · rw [show (0:Int) = ((0:Nat):Int) from rfl,h1,Zac,Zdh,if_pos (by omega),Zcw,h2,Zac]
   rw [List.drop_zero] at h4
   rw [h4]
   unfold eqI
   simp
theorem fieldOf_l2 (l:FLs) (v:ByteArray) (hl:l.length <= 1048576):∀ (n i:Nat),i + n = l.length ->
  ∃ f,Za5.l2 v l (l.length:Int) i (bs []) 0 0 = some f /\ f.2.1 = (Zeo (l.drop i) v).getD 0
 | 0,i,e=>⟨_,by rw [Za5.l2_eq,Zah,if_neg (by omega),Za5.j7_eq],by rw [List.drop_eq_nil_of_le (by omega),kindOf_nil]; rfl⟩
 | n + 1,i,e=>by
   obtain ⟨x,hx,hd⟩:=Zdr (l:=l) (i:=i) (by omega)
   rw [Za5.l2_eq,Zah,if_pos (by omega),Zcw,hx,Zac,Zef,hd,kindOf_cons,Zc5 _ _ (by omega) (by omega),show (i:Int) + 1 = ((i + 1:Nat):Int) by omega]
   by_cases h:x.1 = v
   · rw [if_pos h,if_pos h]
     exact ⟨_,rfl,rfl⟩
   · rw [if_neg h,if_neg h]
     exact fieldOf_l2 l v hl n (i + 1) (by omega)
theorem iField_ok (l:FLs) (v:ByteArray) (hl:l.length <= 1048576):∃ f,Za5 (l,v) = some f /\ f.2.1 = (Zeo l v).getD 0:=by
 rw [impl_fieldOf_eq,Zbg]
 have:=fieldOf_l2 l v hl l.length 0 (by omega)
 rwa [List.drop_zero] at this
theorem kind_dec (o:Option Int) (k:Int) (hk:k ≠ 0):eqI (o.getD 0) k = decide (o = some k):=by
 unfold eqI
 cases o with
 | none=>simp [Ne.symm hk]
 | some x=>simp
abbrev Ev:=Key × (Int × Int)
def evT (f:ByteArray) (doc:Int):List ByteArray -> Nat -> List Ev
 | [],_=>[]
 | t :: r,k=>if t = bs [] then evT f doc r (k + 1) else ((f,t),(doc,(k:Int))) :: evT f doc r (k + 1)
theorem evT_nil (f:ByteArray) (doc:Int) (k:Nat):evT f doc [] k = []:=rfl
theorem evT_cons (f:ByteArray) (doc:Int) (t:ByteArray) (r:List ByteArray) (k:Nat):evT f doc (t :: r) k = if t = bs [] then evT f doc r (k + 1) else ((f,t),(doc,(k:Int))) :: evT f doc r (k + 1):=rfl
theorem evT_len (f:ByteArray) (doc:Int):∀ (l:List ByteArray) (k:Nat),(evT f doc l k).length <= l.length
 | [],k=>Nat.le_refl _
 | t :: r,k=>by
   have:=evT_len f doc r (k + 1)
   rw [evT_cons]
   split
   · simp; omega
   · simp; exact this
abbrev CT2:=ByteArray × ByteArray
abbrev RwT:=Int × (ByteArray × List CT2)
def evC (fields:FLs) (doc:Int) (cells:List CT2):List Ev:=cells.flatMap fun c=>if Zeo fields c.1 = some 1 then evT c.1 doc (Zf5 c.2) 0 else []
def evR (fields:FLs) (rows:List RwT):List Ev:=rows.flatMap fun r=>evC fields r.1 r.2.2
theorem evC_cons (fields:FLs) (doc:Int) (c:CT2) (r:List CT2):evC fields doc (c :: r) = (if Zeo fields c.1 = some 1 then evT c.1 doc (Zf5 c.2) 0 else []) ++ evC fields doc r:=by unfold evC; rw [List.flatMap_cons]
theorem evR_cons (fields:FLs) (x:RwT) (r:List RwT):evR fields (x :: r) = evC fields x.1 x.2.2 ++ evR fields r:=by unfold evR; rw [List.flatMap_cons]
def insS (l:List Ent) (v:Ev):List Ent:=insE kLt l v.1 v.2.1 v.2.2
theorem bd_fold:∀ (es:List Ev) {l:List Ent} {N:Nat},Bd l N -> Bd (es.foldl insS l) (N + es.length)
 | [],l,N,h=>h
 | v :: r,l,N,h=>by
   have:=bd_fold r (insE_bd h v.1 v.2.1 v.2.2)
   rw [List.foldl_cons,List.length_cons,show N + (r.length + 1) = N + 1 + r.length by omega]
   exact this
theorem l4Doc_l7 (fields:FLs) (doc:Int) (key:ByteArray) (cells:List CT2) (ci:Nat) (c:CT2) (hc:cells[ci]? = some c) (terms:List ByteArray) (ht:terms.length <= 1048577):∀ (n k:Nat) (l:List Ent) (N:Nat),k + n = terms.length -> Bd l N ->
  N + (evT c.1 doc (terms.drop k) k).length <= 274877906944 ->
  Za6.l7 fields ci k terms doc key cells l = Za6.j3 fields ci doc key cells ((evT c.1 doc (terms.drop k) k).foldl insS l)
 | 0,k,l,N,e,hb,hN=>by
   rw [Za6.l7_eq,Zah,Zbg,if_neg (by omega),List.drop_eq_nil_of_le (by omega),evT_nil]
   rfl
 | n + 1,k,l,N,e,hb,hN=>by
   obtain ⟨t,hx,hd⟩:=Zdr (l:=terms) (i:=k) (by omega)
   have hnext:addI .i64 (k:Int) 1 = ((k + 1:Nat):Int):=by rw [Zc5 _ _ (by omega) (by omega)]; omega
   rw [hd,evT_cons] at hN ⊢
   rw [Za6.l7_eq,Zah,Zbg,if_pos (by omega),Zdh,if_pos (by omega),Zah,if_pos (by omega),Zcw,hx,Zac,Zck,Zef]
   by_cases h:t = bs []
   · rw [if_pos h] at hN ⊢
     rw [if_pos h,Za6.j8_eq,hnext]
     exact l4Doc_l7 fields doc key cells ci c hc terms ht n (k + 1) l N (by omega) hb hN
   · rw [if_neg h] at hN ⊢
     rw [List.length_cons] at hN
     rw [if_neg h,Zcw,hc,Zac,Zdh,if_pos (by omega),Zah,if_pos (by omega),Zac,l4Word_ok hb (by omega),Zac,Za6.j8_eq,hnext]
     rw [l4Doc_l7 fields doc key cells ci c hc terms ht n (k + 1) _ (N + 1) (by omega) (insE_bd hb _ _ _) (by omega)]
     rfl
def OkC (cells:List CT2):Prop:=cells.length <= 1048576 /\ ∀ c ∈ cells,c.2.size <= 1048576 /\ c.1.size <= 1048576
theorem l4Doc_l2 (fields:FLs) (hf:fields.length <= 1048576) (doc:Int) (key:ByteArray) (cells:List CT2) (ho:OkC cells):∀ (n i:Nat) (l:List Ent) (N:Nat),i + n = cells.length -> Bd l N -> N + (evC fields doc (cells.drop i)).length <= 274877906944 ->
  Za6.l2 fields i doc key cells l = some ((evC fields doc (cells.drop i)).foldl insS l)
 | 0,i,l,N,e,hb,hN=>by
   rw [Za6.l2_eq,Zah,Zbg,if_neg (by omega),Za6.j11_eq,List.drop_eq_nil_of_le (by omega)]
   rfl
 | n + 1,i,l,N,e,hb,hN=>by
   obtain ⟨c,hx,hd⟩:=Zdr (l:=cells) (i:=i) (by omega)
   have hm:=ho.2 c (List.mem_of_getElem? hx)
   have hlen:=ho.1
   have hnext:addI .i64 (i:Int) 1 = ((i + 1:Nat):Int):=by rw [Zc5 _ _ (by omega) (by omega)]; omega
   rw [hd,evC_cons,List.length_append] at hN
   rw [hd,evC_cons,List.foldl_append]
   rw [Za6.l2_eq,Zah,Zbg,if_pos (by omega),Zcw,hx,Zac,sKind_ok fields c.1 1 hf,Zac,Zck,Zew]
   by_cases h:Zeo fields c.1 = some 1
   · rw [if_pos h] at hN ⊢
     rw [if_pos h,Zac,sTerms_ok c.2 hm.1,Zac]
     have hl7:=l4Doc_l7 fields doc key cells i c hx (Zf5 c.2) (termsV_len c.2 hm.1) (Zf5 c.2).length 0 l N (by omega) hb (by rw [List.drop_zero]; omega)
     rw [List.drop_zero] at hl7
     rw [show (0:Int) = ((0:Nat):Int) from rfl,hl7,Za6.j3_eq,hnext]
     exact l4Doc_l2 fields hf doc key cells ho n (i + 1) _ (N + (evT c.1 doc (Zf5 c.2) 0).length) (by omega) (bd_fold _ hb) (by omega)
   · rw [if_neg h] at hN ⊢
     rw [if_neg h,Za6.j3_eq,hnext]
     exact l4Doc_l2 fields hf doc key cells ho n (i + 1) l N (by omega) hb (by simp at hN; omega)
theorem l4Doc_ok (fields:FLs) (hf:fields.length <= 1048576) (r:RwT) (ho:OkC r.2.2) (l:List Ent) (N:Nat) (hb:Bd l N) (hN:N + (evC fields r.1 r.2.2).length <= 274877906944) :
  Za6 (fields,(l,r)) = some ((evC fields r.1 r.2.2).foldl insS l):=by
 have:=l4Doc_l2 fields hf r.1 r.2.1 r.2.2 ho r.2.2.length 0 l N (by omega) hb (by rw [List.drop_zero]; exact hN)
 rw [List.drop_zero] at this
 rw [show (fields,(l,r)) = (fields,(l,r)) from rfl,spec_l4Doc_eq]
 exact this
def OkR (rows:List RwT):Prop:=rows.length <= 1048576 /\ ∀ r ∈ rows,OkC r.2.2
theorem l4Made_l3 (fields:FLs) (hf:fields.length <= 1048576) (rows:List RwT) (ho:OkR rows):∀ (n i:Nat) (l:List Ent) (N:Nat),i + n = rows.length -> Bd l N -> N + (evR fields (rows.drop i)).length <= 274877906944 ->
  Zbq.l3 fields rows i l = some ((evR fields (rows.drop i)).foldl insS l)
 | 0,i,l,N,e,hb,hN=>by
   rw [Zbq.l3_eq,Zah,Zbg,if_neg (by omega),Zbq.j6_eq,List.drop_eq_nil_of_le (by omega)]
   rfl
 | n + 1,i,l,N,e,hb,hN=>by
   obtain ⟨r,hx,hd⟩:=Zdr (l:=rows) (i:=i) (by omega)
   have hm:=ho.2 r (List.mem_of_getElem? hx)
   have hlen:=ho.1
   have hnext:addI .i64 (i:Int) 1 = ((i + 1:Nat):Int):=by rw [Zc5 _ _ (by omega) (by omega)]; omega
   rw [hd,evR_cons,List.length_append] at hN
   rw [hd,evR_cons,List.foldl_append]
   rw [Zbq.l3_eq,Zah,Zbg,if_pos (by omega),Zcw,hx,Zac,l4Doc_ok fields hf r hm l N hb (by omega),Zac,hnext]
   exact l4Made_l3 fields hf rows ho n (i + 1) _ (N + (evC fields r.1 r.2.2).length) (by omega) (bd_fold _ hb) (by omega)
def madeV (fields:FLs) (rows:List RwT):List Ent:=(evR fields rows).foldl insS []
theorem made_ok (fields:FLs) (hf:fields.length <= 1048576) (rows:List RwT) (ho:OkR rows) (hN:(evR fields rows).length <= 274877906944):Zbq (fields,rows) = some (madeV fields rows):=by
 have:=l4Made_l3 fields hf rows ho rows.length 0 [] 0 (by omega) ⟨Nat.le_refl _,fun e h=>nomatch h⟩ (by rw [List.drop_zero]; omega)
 rw [List.drop_zero] at this
 rw [spec_l4Made_eq]
 exact this
end Go.E
namespace Go.E
open Go
abbrev MapT:=List (Key × Pst)
def stepM (m:MapT) (v:Ev):MapT:=putM (.pr .str .str) (.sl (.pr (.int .i64) (.sl (.int .i64)))) m v.1 (addP (getM (.pr .str .str) (.sl (.pr (.int .i64) (.sl (.int .i64)))) m v.1 []) v.2.1 v.2.2)
theorem rel_step {m:MapT} {l:List Ent} (h:RelME kLt m l) (v:Ev):RelME kLt (stepM m v) (insS l v):=step_rel kLt_ord h v.1 v.2.1 v.2.2
theorem rel_fold:∀ (es:List Ev) {m:MapT} {l:List Ent},RelME kLt m l -> RelME kLt (es.foldl stepM m) (es.foldl insS l)
 | [],_,_,h=>h
 | v :: r,m,l,h=>rel_fold r (rel_step h v)
theorem get_bd {m:MapT} {l:List Ent} {N:Nat} (h:RelME kLt m l) (hb:Bd l N) (k:Key):(getM (.pr .str .str) (.sl (.pr (.int .i64) (.sl (.int .i64)))) m k ([]:Pst)).length <= N /\ ∀ x ∈ getM (.pr .str .str) (.sl (.pr (.int .i64) (.sl (.int .i64)))) m k ([]:Pst),x.2.length <= N:=by
 have e:getM (.pr .str .str) (.sl (.pr (.int .i64) (.sl (.int .i64)))) m k ([]:Pst) = getMr (κ:=.pr .str .str) (τ:=.sl (.pr (.int .i64) (.sl (.int .i64)))) m k ([]:Pst):=rfl
 rw [e]
 rcases map_at (τ:=.sl (.pr (.int .i64) (.sl (.int .i64)))) m k ([]:Pst) ([]:Pst) with ⟨_,h2,_⟩ | ⟨m1,x,m2,h0,_,h2,_⟩
 · rw [h2]; exact ⟨Nat.zero_le _,fun x hx=>nomatch hx⟩
 · rw [h2]
   have hm:mkE k x ∈ l:=h.1.symm.subset (by rw [h0]; simp)
   have:=hb.2 _ hm
   exact ⟨this.2.1,this.2.2⟩
theorem ent_l10 (fields:FLs) (rows:List RwT) (rl i:Int) (cells:List CT2) (cl j:Int) (doc:Int) (key:ByteArray) (c:CT2) (terms:List ByteArray) (ht:terms.length <= 1048577):∀ (n k:Nat) (m:MapT) (l:List Ent) (N:Nat),k + n = terms.length -> RelME kLt m l -> Bd l N ->
  N + (evT c.1 doc (terms.drop k) k).length <= 274877906944 ->
  Zag.l10 fields rows rl i cells cl j (terms.length:Int) k terms c.1 c.2 doc key cells m = Zag.j20 fields rows rl i cells cl j doc key cells ((evT c.1 doc (terms.drop k) k).foldl stepM m)
 | 0,k,m,l,N,e,hr,hb,hN=>by
   rw [Zag.l10_eq,Zah,if_neg (by omega),List.drop_eq_nil_of_le (by omega),evT_nil]
   rfl
 | n + 1,k,m,l,N,e,hr,hb,hN=>by
   obtain ⟨t,hx,hd⟩:=Zdr (l:=terms) (i:=k) (by omega)
   have hnext:addI .i64 (k:Int) 1 = ((k + 1:Nat):Int):=by rw [Zc5 _ _ (by omega) (by omega)]; omega
   rw [hd,evT_cons] at hN ⊢
   rw [Zag.l10_eq,Zah,if_pos (by omega),Zdh,if_pos (by omega),Zah,Zbg,if_pos (by omega),Zcw,hx,Zac,Zef]
   by_cases h:t = bs []
   · rw [if_pos h] at hN ⊢
     rw [if_pos h,Zag.j19_eq,hnext]
     exact ent_l10 fields rows rl i cells cl j doc key c terms ht n (k + 1) m l N (by omega) hr hb hN
   · rw [if_neg h] at hN ⊢
     rw [List.length_cons] at hN
     rw [if_neg h]
     obtain ⟨g1,g2⟩:=get_bd hr hb (c.1,t)
     have hstep:stepM m ((c.1,t),(doc,(k:Int))) = putM (.pr .str .str) (.sl (.pr (.int .i64) (.sl (.int .i64)))) m (c.1,t) (addP (getM (.pr .str .str) (.sl (.pr (.int .i64) (.sl (.int .i64)))) m (c.1,t) []) doc k):=rfl
     have hfin:∀ p:Pst,p = addP (getM (.pr .str .str) (.sl (.pr (.int .i64) (.sl (.int .i64)))) m (c.1,t) []) doc k ->
       Zag.j18 fields t rows rl i cells cl j (terms.length:Int) k terms p c.1 c.2 doc key cells m (c.1,t) = Zag.j20 fields rows rl i cells cl j doc key cells ((((c.1,t),(doc,(k:Int))) :: evT c.1 doc (terms.drop (k + 1)) (k + 1)).foldl stepM m):=fun p hp=>by
      rw [Zag.j18_eq,show eqK (Ty.pr Ty.str Ty.str) (c.1,t) (c.1,t) = true from (eqDr_key _ _).2 rfl,Zeu,Zag.j19_eq,hnext,hp,← hstep]
      exact ent_l10 fields rows rl i cells cl j doc key c terms ht n (k + 1) _ _ (N + 1) (by omega) (rel_step hr _) (insE_bd hb _ _ _) (by omega)
     rw [List.foldl_cons] at hfin ⊢
     generalize getM (Ty.pr Ty.str Ty.str) (Ty.sl (Ty.pr (Ty.int .i64) (Ty.sl (Ty.int .i64)))) m (c.1,t) [] = p at g1 g2 hfin ⊢
     by_cases hp:p = []
     · subst hp
       have e0:subI .i64 (lenL ([]:Pst)) 1 = -1:=by rw [Zbg,Zkf _ _ (by simp) (by simp)]; rfl
       rw [e0,Zdh,if_neg (by omega),Zdb,if_pos (by rw [Zcr]; simp)]
       exact hfin _ rfl
     · obtain ⟨q,x,p1,p2,p3,p4⟩:=addP_cases hp (by omega) doc k
       have hql:q.length < p.length:=by rw [p1]; simp
       have hx2:=g2 x (by rw [p1]; simp)
       rw [p2,Zdh,if_pos (by omega),Zdh,if_pos (by omega),Zah,Zbg,if_pos (by omega),p3,Zac,Zci]
       by_cases hxd:x.1 = doc
       · rw [if_pos hxd,Zdh,if_pos (by omega),Zah,if_pos (by omega),Zac,Zdb,if_pos (by rw [Zcr]; simp; omega),Zdh,if_pos (by omega),Zah,if_pos (by omega),Zci,if_pos rfl]
         exact hfin _ (by rw [p4,if_pos hxd])
       · rw [if_neg hxd,Zdb,if_pos (by rw [Zcr]; simp; omega)]
         exact hfin _ (by rw [p4,if_neg hxd])
theorem ent_l6 (fields:FLs) (hf:fields.length <= 1048576) (rows:List RwT) (rl i:Int) (doc:Int) (key:ByteArray) (cells:List CT2) (ho:OkC cells):∀ (n j:Nat) (m:MapT) (l:List Ent) (N:Nat),j + n = cells.length -> RelME kLt m l -> Bd l N -> N + (evC fields doc (cells.drop j)).length <= 274877906944 ->
  Zag.l6 fields rows rl i cells (cells.length:Int) j doc key cells m = Zag.j21 fields rows rl i ((evC fields doc (cells.drop j)).foldl stepM m)
 | 0,j,m,l,N,e,hr,hb,hN=>by
   rw [Zag.l6_eq,Zah,if_neg (by omega),List.drop_eq_nil_of_le (by omega)]
   rfl
 | n + 1,j,m,l,N,e,hr,hb,hN=>by
   obtain ⟨c,hx,hd⟩:=Zdr (l:=cells) (i:=j) (by omega)
   have hm:=ho.2 c (List.mem_of_getElem? hx)
   have hlen:=ho.1
   have hnext:addI .i64 (j:Int) 1 = ((j + 1:Nat):Int):=by rw [Zc5 _ _ (by omega) (by omega)]; omega
   rw [hd,evC_cons,List.length_append] at hN
   rw [hd,evC_cons,List.foldl_append]
   obtain ⟨f,f1,f2⟩:=iField_ok fields c.1 hf
   rw [Zag.l6_eq,Zah,if_pos (by omega),Zcw,hx,Zac,f1,Zac,Zck,f2,kind_dec _ 1 (by omega),Zew]
   by_cases h:Zeo fields c.1 = some 1
   · rw [if_pos h] at hN ⊢
     rw [if_pos h,iTermsV c.2 hm.1,Zac,Zbg]
     have hl:=ent_l10 fields rows rl i cells (cells.length:Int) j doc key c (Zf5 c.2) (termsV_len c.2 hm.1) (Zf5 c.2).length 0 m l N (by omega) hr hb (by rw [List.drop_zero]; omega)
     rw [List.drop_zero] at hl
     rw [show (0:Int) = ((0:Nat):Int) from rfl,hl,Zag.j20_eq,hnext]
     exact ent_l6 fields hf rows rl i doc key cells ho n (j + 1) _ _ (N + (evT c.1 doc (Zf5 c.2) 0).length) (by omega) (rel_fold _ hr) (bd_fold _ hb) (by omega)
   · rw [if_neg h] at hN ⊢
     rw [if_neg h,Zag.j20_eq,hnext]
     exact ent_l6 fields hf rows rl i doc key cells ho n (j + 1) m l N (by omega) hr hb (by simp at hN; omega)
theorem ent_l3 (fields:FLs) (hf:fields.length <= 1048576) (rows:List RwT) (ho:OkR rows):∀ (n i:Nat) (m:MapT) (l:List Ent) (N:Nat),i + n = rows.length -> RelME kLt m l -> Bd l N -> N + (evR fields (rows.drop i)).length <= 274877906944 ->
  Zag.l3 fields rows (rows.length:Int) i m = Zag.j22 ((evR fields (rows.drop i)).foldl stepM m)
 | 0,i,m,l,N,e,hr,hb,hN=>by
   rw [Zag.l3_eq,Zah,if_neg (by omega),List.drop_eq_nil_of_le (by omega)]
   rfl
 | n + 1,i,m,l,N,e,hr,hb,hN=>by
   obtain ⟨r,hx,hd⟩:=Zdr (l:=rows) (i:=i) (by omega)
   have hm:=ho.2 r (List.mem_of_getElem? hx)
   have hlen:=ho.1
   have hnext:addI .i64 (i:Int) 1 = ((i + 1:Nat):Int):=by rw [Zc5 _ _ (by omega) (by omega)]; omega
   rw [hd,evR_cons,List.length_append] at hN
   rw [hd,evR_cons,List.foldl_append]
   have h6:=ent_l6 fields hf rows (rows.length:Int) i r.1 r.2.1 r.2.2 hm r.2.2.length 0 m l N (by omega) hr hb (by rw [List.drop_zero]; omega)
   rw [List.drop_zero] at h6
   rw [Zag.l3_eq,Zah,if_pos (by omega),Zcw,hx,Zac,Zbg,show (0:Int) = ((0:Nat):Int) from rfl,h6,Zag.j21_eq,hnext]
   exact ent_l3 fields hf rows ho n (i + 1) _ _ (N + (evC fields r.1 r.2.2).length) (by omega) (rel_fold _ hr) (bd_fold _ hb) (by omega)
theorem ent_l24 {m0:MapT} {l:List Ent} (hr:RelME kLt m0 l) (hl:l.length <= 274877906944):∀ (n:Nat) (m:MapT) (o:List Ent),m.length = n -> (o ++ m.map fun p=>mkE p.1 p.2).Perm (m0.map fun p=>mkE p.1 p.2) ->
  Zag.l24 m o = some l
 | 0,m,o,e,hp=>by
   have hm:m = []:=List.length_eq_zero_iff.1 e
   subst hm
   rw [Zag.l24_eq,Zkj rfl,Zag.j27_eq]
   rw [List.map_nil,List.append_nil] at hp
   have hlen:o.length = l.length:=(hp.trans hr.1.symm).length_eq
   have hs:sortC cfE o = some l:=sort_entries hr hp (by omega)
   have hs':Zcz (o,PUnit.unit) = some l:=hs
   rw [hs']
   rfl
 | n + 1,m,o,e,hp=>by
   rw [Zag.l24_eq]
   refine pickK_mk (fun h=>by omega) fun j hj=>?_
   have hlen:o.length + m.length = l.length:=by
    have:=(hp.trans hr.1.symm).length_eq
    simpa using this
   rw [Zdb,if_pos (by rw [Zcr]; simp; omega)]
   refine ent_l24 hr hl n _ _ (by rw [List.length_eraseIdx_of_lt hj]; omega) ?_
   rw [appL_eq,List.append_assoc]
   refine List.Perm.trans (List.Perm.append_left o ?_) hp
   have h1:(m[j] :: m.eraseIdx j).Perm m:=by
    have e1:m.take j ++ m[j] :: m.drop (j + 1) = m:=by rw [← List.drop_eq_getElem_cons hj,List.take_append_drop]
    rw [List.eraseIdx_eq_take_drop_succ]
    exact List.perm_middle.symm.trans (by rw [e1])
   exact h1.map (fun p=>mkE p.1 p.2)
theorem entries_ok (fields:FLs) (hf:fields.length <= 1048576) (rows:List RwT) (ho:OkR rows) (hN:(evR fields rows).length <= 274877906944):Zag (fields,rows) = some (madeV fields rows):=by
 have h0:RelME kLt ([]:MapT) []:=⟨List.Perm.refl _,List.Pairwise.nil,fun e h=>nomatch h⟩
 have hb0:Bd ([]:List Ent) 0:=⟨Nat.le_refl _,fun e h=>nomatch h⟩
 have h3:=ent_l3 fields hf rows ho rows.length 0 [] [] 0 (by omega) h0 hb0 (by rw [List.drop_zero]; omega)
 rw [List.drop_zero] at h3
 have hr:=rel_fold (evR fields rows) h0
 have hb:=bd_fold (evR fields rows) hb0
 rw [impl_entries_eq,Zbg,show (0:Int) = ((0:Nat):Int) from rfl,h3,Zag.j22_eq]
 exact ent_l24 hr (by have:=hb.1; unfold madeV at *; omega) _ _ [] rfl (List.Perm.refl _)
end Go.E
namespace Go.E
open Go Go.Lib
def numV (s:ByteArray):Int × Bool:=match Zh5 (toL s) with
 | some n=>if -999999999 <= n /\ n <= 999999999 then (n,true) else (0,false)
 | none=>(0,false)
theorem numV_iff (s:ByteArray) (n:Int):numV s = (n,true) ↔ Zh5 (toL s) = some n /\ -999999999 <= n /\ n <= 999999999:=by
 unfold numV
 constructor
 · intro h
   cases e:Zh5 (toL s) with
   | none=>rw [e] at h; cases h
   | some m =>
     rw [e] at h
     simp only at h
     split at h
     · cases h; rename_i hb; exact ⟨rfl,hb⟩
     · cases h
 · rintro ⟨h1,h2⟩
   rw [h1]
   simp only
   rw [if_pos h2]
theorem Zhb (s:ByteArray) (h:∀ n,¬ (Zh5 (toL s) = some n /\ -999999999 <= n /\ n <= 999999999)):numV s = (0,false):=by
 unfold numV
 cases e:Zh5 (toL s) with
 | none=>rfl
 | some m =>
   simp only
   rw [if_neg (fun hb=>h m ⟨e,hb⟩)]
theorem iNumber_ok (s:ByteArray) (hs:s.size <= 1048576):Zde s = some (numV s):=by
 have hA:Zf3 s = atoiC s:=rfl
 rw [impl_number_eq,hA]
 unfold atoiC
 rw [if_pos (by omega)]
 have hnone:(∀ n,atoiAll s.data.toList ≠ .ok n) -> numV s = (0,false):=fun h=>Zhb s fun n hn=>by
  have:=(atoi_numOf (l:=toL s) (n:=n) ⟨by omega,by omega⟩).2 hn.1
  exact h n this.1
 cases h:atoiAll s.data.toList with
 | range =>
   simp only
   rw [Zac,Zeu,hnone (fun n e=>by rw [h] at e; cases e)]
 | ok v =>
   simp only
   rw [Zac,Ze7,Zgw,Zac,Zck,Zew]
   have only:∀ n,Zh5 (toL s) = some n /\ -999999999 <= n /\ n <= 999999999 -> n = v:=fun n hn=>by
    have:=(atoi_numOf (l:=toL s) (n:=n) ⟨by omega,by omega⟩).2 hn.1
    have e1:atoiAll s.data.toList = .ok n:=this.1
    rw [h] at e1; cases e1; rfl
   by_cases hb:-999999999 <= v /\ v <= 999999999
   · have hI:strconv_Itoa v = some ⟨(itoa v).toArray⟩:=by
       show itoaC v = _
       unfold itoaC; rw [if_pos (by omega)]
     rw [if_pos hb,hI,Zac,Zck,Zef]
     by_cases he:(⟨(itoa v).toArray⟩:ByteArray) = s
     · rw [if_pos he]
       have hl:itoa v = toL s:=by rw [← he]; rfl
       rw [(numV_iff s v).2 ⟨(atoi_numOf (l:=toL s) ⟨by omega,by omega⟩).1 ⟨h,hl⟩,hb⟩]
     · rw [if_neg he,Zhb s fun n hn=>?_]
       have e:=only n hn
       subst e
       have:=itoa_numOf hn.1
       exact he (by rw [this]; exact Zit s)
   · rw [if_neg hb,Zhb s fun n hn=>?_]
     have e:=only n hn
     subst e
     exact hb hn.2
 | _ =>
   simp only
   rw [Zac,Zeu,hnone (fun n e=>by rw [h] at e; cases e)]
def figV (l:List UInt8):Int:=open Classical in if figs l /\ l.length <= 9 then (valD 0 l:Int) else -1
theorem digs_app {l:List UInt8} {c:UInt8} (h:digs l) (hc:48 <= c.toNat /\ c.toNat <= 57):digs (l ++ [c]):=fun x hx=>by
 rcases List.mem_append.1 hx with h1 | h1
 · exact h x h1
 · rw [List.mem_singleton.1 h1]; exact hc
theorem figures_l3 (s:ByteArray) (hs:s.size <= 1048576):∀ (n i:Nat),i + n = s.size -> i <= 9 -> digs ((toL s).take i) -> Zaz.l3 s ((valD 0 ((toL s).take i):Nat):Int) i = some (figV (toL s))
 | 0,i,e,h9,hd=>by
   have htk:(toL s).take i = toL s:=List.take_of_length_le (by rw [Zdu]; omega)
   rw [htk] at hd ⊢
   rw [Zaz.l3_eq,Zah,Zd6,if_neg (by omega),Zaz.j8_eq,Zci,Zd6,Zah]
   by_cases h0:s.size = 0
   · rw [if_pos (by omega)]
     unfold figV
     rw [if_neg]
     rintro ⟨⟨_,hne,_⟩,_⟩
     exact hne (List.length_eq_zero_iff.1 (by rw [Zdu]; exact h0))
   · rw [if_neg (by omega)]
     have hne:toL s ≠ []:=fun e=>h0 (by rw [← Zdu,e]; rfl)
     by_cases h1:1 < s.size
     · rw [if_pos (by omega)]
       obtain ⟨b,hb⟩:∃ b,(toL s)[0]? = some b:=⟨_,List.getElem?_eq_getElem (by rw [Zdu]; omega)⟩
       rw [show (0:Int) = ((0:Nat):Int) from rfl,atS_toL hb,Zac,Zci]
       have hhead:(toL s).head? = some b:=by rw [List.head?_eq_getElem?]; exact hb
       unfold figV
       by_cases h48:(b.toNat:Int) = 48
       · rw [if_pos h48,if_neg]
         rintro ⟨⟨_,_,h⟩,_⟩
         refine h (by rw [Zdu]; exact h1) ?_
         rw [hhead,show (48:UInt8) = UInt8.ofNat 48 from rfl,← show b.toNat = 48 by omega,Zer]
       · have hh:(toL s).head? ≠ some 48:=fun e=>by
           rw [hhead] at e
           have e2:=Option.some.inj e
           rw [e2] at h48
           exact h48 rfl
         rw [if_neg h48,if_pos ⟨⟨hd,hne,fun _=>hh⟩,by rw [Zdu]; omega⟩]
     · rw [if_neg (by omega)]
       unfold figV
       rw [if_pos ⟨⟨hd,hne,fun h=>by rw [Zdu] at h; omega⟩,by rw [Zdu]; omega⟩]
 | n + 1,i,e,h9,hd=>by
   obtain ⟨b,hb,hdr⟩:=Zdr (l:=toL s) (i:=i) (by rw [Zdu]; omega)
   have hat:=atS_toL hb
   have hbl:=byte_le b
   have bad:¬ (48 <= b.toNat /\ b.toNat <= 57) ∨ 9 <= i -> figV (toL s) = -1:=fun h=>by
    unfold figV
    rw [if_neg]
    rintro ⟨⟨h1,_,_⟩,h2⟩
    rw [Zdu] at h2
    rcases h with h | h
    · exact h (h1 b (List.mem_of_getElem? hb))
    · omega
   rw [Zaz.l3_eq,Zah,Zd6,if_pos (by omega),hat]
   simp only [Zac]
   rw [Zah,Zah,Zdh]
   by_cases c1:(b.toNat:Int) < 48
   · rw [if_pos c1,bad (.inl (by omega))]
   · rw [if_neg c1]
     by_cases c2:(57:Int) < b.toNat
     · rw [if_pos c2,bad (.inl (by omega))]
     · rw [if_neg c2]
       by_cases c3:(9:Int) <= i
       · rw [if_pos c3,bad (.inr (by omega))]
       · rw [if_neg c3]
         have hlt:=valD_lt ((toL s).take i) 0 hd
         have hpow:10 ^ ((toL s).take i).length <= 10 ^ 9:=Nat.pow_le_pow_right (by omega) (by rw [List.length_take]; omega)
         have h9v:(10:Nat) ^ 9 = 1000000000:=rfl
         have hconv:Zhv .i64 (subI Go.IntKind.u8 (b.toNat:Int) 48) = ((b.toNat - 48:Nat):Int):=by
          have e1:subI Go.IntKind.u8 (b.toNat:Int) 48 = ((b.toNat - 48:Nat):Int):=by
           have:(b.toNat:Int) - 48 = ((b.toNat - 48:Nat):Int):=by omega
           unfold subI
           rw [this]
           exact IntWalk.u8_in _ ⟨by omega,by omega⟩
          rw [e1]
          unfold Zhv
          exact IntWalk.i64_in _ ⟨by omega,by omega⟩
         have hmul:mulI .i64 ((valD 0 ((toL s).take i):Nat):Int) 10 = ((valD 0 ((toL s).take i) * 10:Nat):Int):=by
          unfold mulI
          rw [show ((valD 0 ((toL s).take i):Nat):Int) * 10 = ((valD 0 ((toL s).take i) * 10:Nat):Int) by omega]
          exact IntWalk.i64_in _ ⟨by omega,by omega⟩
         have htake:(toL s).take (i + 1) = (toL s).take i ++ [b]:=by
          rw [List.take_add_one,hb]; rfl
         have hval:valD 0 ((toL s).take (i + 1)) = valD 0 ((toL s).take i) * 10 + (b.toNat - 48):=by
          rw [htake,valD_append,Zft,Zgn]
         rw [hconv,hmul,Zc5 _ _ (by omega) (by omega),Zc5 _ _ (by omega) (by omega),show (i:Int) + 1 = ((i + 1:Nat):Int) by omega,
          show ((valD 0 ((toL s).take i) * 10:Nat):Int) + ((b.toNat - 48:Nat):Int) = ((valD 0 ((toL s).take (i + 1)):Nat):Int) by rw [hval]; omega]
         refine figures_l3 s hs n (i + 1) (by omega) (by omega) ?_
         rw [htake]
         exact digs_app hd ⟨by omega,by omega⟩
theorem figures_ok (s:ByteArray) (hs:s.size <= 1048576):Zaz s = some (figV (toL s)):=by
 have:=figures_l3 s hs s.size 0 (by omega) (by omega) (fun c hc=>by simp at hc)
 rw [List.take_zero,Zgn] at this
 rw [spec_l1Figures_eq]
 exact this
theorem figV_numOf (l:List UInt8) (n:Int):(figs l /\ l.length <= 9 /\ n = (valD 0 l:Int)) ↔ (figs l /\ n = (valD 0 l:Int) /\ n <= 999999999):=by
 constructor
 · rintro ⟨h1,h2,h3⟩
   have:=(Zie h1).1 h2
   exact ⟨h1,h3,by omega⟩
 · rintro ⟨h1,h2,h3⟩
   exact ⟨h1,(Zie h1).2 (by omega),h2⟩
theorem sNumber_ok (s:ByteArray) (hs:s.size <= 1048576):∃ n,Zc0 s = some (n,(numV s).2) /\ ((numV s).2 = true -> n = (numV s).1):=by
 classical
 have plain:(∀ r,toL s = 45 :: r -> r = []) -> ∃ n,(bindO (Zaz s) fun y=>some (y,leI 0 y)) = some (n,(numV s).2) /\ ((numV s).2 = true -> n = (numV s).1):=fun h45=>by
  rw [figures_ok s hs,Zac]
  unfold figV
  by_cases hf:figs (toL s) /\ (toL s).length <= 9
  · rw [if_pos hf]
    have hn:Zh5 (toL s) = some (valD 0 (toL s):Int):=by unfold Zh5; rw [if_pos hf.1]
    have hv:=(Zie hf.1).1 hf.2
    have:=(numV_iff s (valD 0 (toL s):Int)).2 ⟨hn,by omega,by omega⟩
    rw [this]
    exact ⟨_,by rw [show leI 0 ((valD 0 (toL s):Nat):Int) = true from decide_eq_true (by omega)],fun _=>rfl⟩
  · rw [if_neg hf]
    have hnv:numV s = (0,false):=Zhb s fun n hn=>by
     have h1:=hn.1
     unfold Zh5 at h1
     by_cases hg:figs (toL s)
     · rw [if_pos hg] at h1
       cases h1
       exact hf ⟨hg,(Zie hg).2 (by omega)⟩
     · rw [if_neg hg] at h1
       cases hl:toL s with
       | nil=>rw [hl] at h1; cases h1
       | cons c r =>
         rw [hl] at h1
         simp only at h1
         split at h1
         · rename_i hh
           have:=h45 r (by rw [hl,hh.1])
           exact hh.2.1.2.1 this
         · cases h1
    rw [hnv]
    exact ⟨_,rfl,fun h=>nomatch h⟩
 rw [spec_l1Number_eq,Zah,Zd6]
 by_cases h1:1 < s.size
 · rw [if_pos (by omega)]
   obtain ⟨b,hb⟩:∃ b,(toL s)[0]? = some b:=⟨_,List.getElem?_eq_getElem (by rw [Zdu]; omega)⟩
   rw [show (0:Int) = ((0:Nat):Int) from rfl,atS_toL hb,Zac,Zci]
   by_cases h45:(b.toNat:Int) = 45
   · have hbe:b = 45:=by rw [← Zer b,show b.toNat = 45 by omega]; rfl
     subst hbe
     obtain ⟨r,hr⟩:∃ r,toL s = 45 :: r:=by
      cases hl:toL s with
      | nil=>rw [hl] at hb; cases hb
      | cons c r=>rw [hl] at hb; simp at hb; exact ⟨r,by rw [hb]⟩
     have hcut:toL (cutS s 1 (lenS s)) = r:=by
      have:=Zg7 s 1 s.size
      rw [Zd6,show (1:Int) = ((1:Nat):Int) from rfl,this,hr,List.drop_succ_cons,List.drop_zero]
      refine List.take_of_length_le ?_
      have:(toL s).length = r.length + 1:=by rw [hr]; rfl
      rw [Zdu] at this; omega
     have hcs:(cutS s 1 (lenS s)).size <= 1048576:=by
      rw [← Zdu,hcut]
      have:(toL s).length = r.length + 1:=by rw [hr]; rfl
      rw [Zdu] at this; omega
     rw [if_pos h45,Zd5,if_pos (by omega)]
     rw [show (s.size:Int) = lenS s from (Zd6 s).symm,figures_ok _ hcs,hcut,Zac]
     unfold figV
     by_cases hf:figs r /\ r.length <= 9
     · rw [if_pos hf]
       have hv:=(Zie hf.1).1 hf.2
       have hneg:negI .i64 ((valD 0 r:Nat):Int) = -((valD 0 r:Nat):Int):=by
        unfold negI; rw [Int.zero_sub]; exact IntWalk.i64_in (-((valD 0 r:Nat):Int)) ⟨by omega,by omega⟩
       rw [hneg]
       by_cases h0:0 < valD 0 r
       · have hn:Zh5 (toL s) = some (-(valD 0 r:Int)):=by
           rw [hr]; unfold Zh5
           rw [if_neg (Ziw r)]
           simp only
           rw [if_pos ⟨trivial,hf.1,h0⟩]
         rw [(numV_iff s _).2 ⟨hn,by omega,by omega⟩]
         exact ⟨_,by rw [show ltI ((0:Nat):Int) ((valD 0 r:Nat):Int) = true from decide_eq_true (by omega)],fun _=>rfl⟩
       · have hnv:numV s = (0,false):=Zhb s fun n hn=>by
           have h1:=hn.1
           rw [hr] at h1
           unfold Zh5 at h1
           rw [if_neg (Ziw r)] at h1
           simp only at h1
           rw [if_neg (fun h=>h0 h.2.2)] at h1
           cases h1
         rw [hnv]
         exact ⟨_,by rw [show ltI ((0:Nat):Int) ((valD 0 r:Nat):Int) = false from decide_eq_false (by omega)],fun h=>nomatch h⟩
     · rw [if_neg hf]
       have hnv:numV s = (0,false):=Zhb s fun n hn=>by
        have h1:=hn.1
        rw [hr] at h1
        unfold Zh5 at h1
        rw [if_neg (Ziw r)] at h1
        simp only at h1
        split at h1
        · rename_i hh
          cases h1
          exact hf ⟨hh.2.1,(Zie hh.2.1).2 (by omega)⟩
        · cases h1
       rw [hnv]
       exact ⟨_,rfl,fun h=>nomatch h⟩
   · rw [if_neg h45]
     refine plain fun r hr=>?_
     rw [hr] at hb
     simp at hb
     exact absurd (by rw [← hb]; rfl) h45
 · rw [if_neg (by omega)]
   refine plain fun r hr=>?_
   have:(toL s).length = r.length + 1:=by rw [hr]; rfl
   rw [Zdu] at this
   exact List.length_eq_zero_iff.1 (by omega)
end Go.E
namespace Go.E
open Go
theorem splitL_len:∀ (t:List UInt8) w,w ∈ Zem t -> w.length <= t.length
 | [],w,h=>by simp [Zem] at h; subst h; simp
 | b :: r,w,h=>by
   simp only [Zem] at h
   split at h
   · rcases List.mem_cons.1 h with rfl | h
     · simp
     · have:=splitL_len r w h; simp; omega
   · split at h
     · rename_i w' ws hw
       rcases List.mem_cons.1 h with rfl | h
       · have:=splitL_len r w' (by rw [hw]; simp); simp; omega
       · have:=splitL_len r w (by rw [hw]; simp [h]); simp; omega
     · simp at h; subst h; simp
def wh (p:List UInt8):List (List UInt8) -> List (List UInt8)
 | w :: ws=>(p ++ w) :: ws
 | []=>[p]
theorem splitL_ne (t:List UInt8):Zem t ≠ []:=by
 cases t with
 | nil=>simp [Zem]
 | cons b r =>
   simp only [Zem]
   split
   · simp
   · split <;> simp
theorem splitL_many (t:List UInt8):(Zem t).length <= t.length + 1:=by
 induction t with
 | nil=>simp [Zem]
 | cons b r ih =>
   simp only [Zem]
   split
   · simp; exact ih
   · split
     · rename_i w ws hw; rw [hw] at ih; simp at ih ⊢; omega
     · simp
theorem cut_l4 (s:ByteArray) (hs:s.size <= 1048576):∀ (n i fr:Nat) (out:List ByteArray),i + n = s.size -> fr <= i -> out.length <= fr ->
  Zbx.l4 s 44 ((s.size + 1:Nat):Int) fr i out = some (out ++ (wh (((toL s).drop fr).take (i - fr)) (Zem ((toL s).drop i))).map toB)
 | 0,i,fr,out,e,hf,ho=>by
   have hcut:∀ h:Int,h = (s.size:Int) -> cutS s fr h = toB (((toL s).drop fr).take (i - fr)):=fun h hh=>by
    rw [hh,← Zit (cutS s fr s.size),Zg7,show s.size = i by omega]
   rw [Zbx.l4_eq,Zah,Zd6,if_neg (by omega),Zbx.j9_eq,Zd5,Zd6,if_pos (by omega),Zdb,if_pos (by rw [Zcr]; simp; omega),hcut _ rfl,List.drop_eq_nil_of_le (show (toL s).length <= i by rw [Zdu]; omega)]
   simp [Zem,wh,appL]
 | n + 1,i,fr,out,e,hf,ho=>by
   obtain ⟨b,hb,hd⟩:=Zdr (l:=toL s) (i:=i) (by rw [Zdu]; omega)
   have hnext:addI .i64 (i:Int) 1 = ((i + 1:Nat):Int):=by rw [Zc5 _ _ (by omega) (by omega)]; omega
   have hcut:cutS s fr i = toB (((toL s).drop fr).take (i - fr)):=by rw [← Zit (cutS s fr i),Zg7]
   have hbl:=byte_le b
   rw [Zbx.l4_eq,Zah,Zd6,if_pos (by omega),Zah,Zbg,if_pos (by omega),atS_toL hb,Zac,Zci,hd]
   by_cases h:(b.toNat:Int) = 44
   · have hbe:b = 44:=by rw [← Zer b,show b.toNat = 44 by omega]; rfl
     rw [if_pos h,Zd5,if_pos (by omega),Zdb,if_pos (by rw [Zcr]; simp; omega),Zbx.j5_eq,hnext,hcut]
     rw [cut_l4 s hs n (i + 1) (i + 1) _ (by omega) (Nat.le_refl _) (by unfold appL; simp; omega)]
     have e1:Zem (b :: (toL s).drop (i + 1)) = [] :: Zem ((toL s).drop (i + 1)):=by simp only [Zem]; rw [if_pos hbe]
     rw [e1,Nat.sub_self,List.take_zero]
     have e2:wh [] (Zem ((toL s).drop (i + 1))) = Zem ((toL s).drop (i + 1)):=by
      cases hq:Zem ((toL s).drop (i + 1)) with
      | nil=>exact absurd hq (splitL_ne _)
      | cons w ws=>simp [wh]
     rw [e2]
     simp [wh,appL]
   · have hbn:b ≠ 44:=fun e=>h (by rw [e]; rfl)
     rw [if_neg h,Zbx.j5_eq,hnext,cut_l4 s hs n (i + 1) fr out (by omega) (by omega) ho]
     have e1:Zem (b :: (toL s).drop (i + 1)) = match Zem ((toL s).drop (i + 1)) with
       | w :: ws=>(b :: w) :: ws
       | []=>[[b]]:=by simp only [Zem]; rw [if_neg hbn] <;> rfl
     have e3:((toL s).drop fr).take (i + 1 - fr) = ((toL s).drop fr).take (i - fr) ++ [b]:=by
      rw [show i + 1 - fr = (i - fr) + 1 by omega,List.take_add_one,List.getElem?_drop,show fr + (i - fr) = i by omega,hb]; rfl
     rw [e1,e3]
     cases hq:Zem ((toL s).drop (i + 1)) with
     | nil=>exact absurd hq (splitL_ne _)
     | cons w ws=>simp [wh]
theorem sCut_ok (s:ByteArray) (hs:s.size <= 1048576):Zbx (s,(44,((s.size + 1:Nat):Int))) = some ((Zem (toL s)).map toB):=by
 have:=cut_l4 s hs s.size 0 0 [] (by omega) (Nat.le_refl _) (Nat.le_refl _)
 rw [spec_l1Cut_eq]
 refine Eq.trans this ?_
 cases hq:Zem (toL s) with
 | nil=>exact absurd hq (splitL_ne _)
 | cons w ws=>simp [wh,hq]
def tagsL (s:ByteArray):List ByteArray:=(Zem (toL s)).map toB
theorem tagsL_len (s:ByteArray):(tagsL s).length <= s.size + 1:=by
 unfold tagsL; rw [List.length_map,← Zdu]; exact splitL_many _
theorem tagsL_size (s:ByteArray):∀ w ∈ tagsL s,w.size <= s.size:=fun w hw=>by
 obtain ⟨x,hx,rfl⟩:=List.mem_map.1 hw
 have:=splitL_len _ _ hx
 rw [Zdu] at this
 show (toB x).size <= _
 rw [← Zdu,toL_toB]; exact this
def tagsB (s:ByteArray):Bool:=(tagsL s).all Zgd && decide (((tagsL s).length:Int) <= 4)
theorem iTags_ok (s:ByteArray) (hs:s.size <= 1048576):Zby s = some (tagsB s):=by
 have hl:=tagsL_len s
 have hz:=tagsL_size s
 rw [impl_tagsOk_eq,split_ok s hs,Zac,Zbg]
 show Zby.l3 (tagsL s) (tagsL s) ((tagsL s).length:Int) 0 = _
 unfold tagsB
 generalize tagsL s = l at hl hz ⊢
 suffices H:∀ (n i:Nat),i + n = l.length -> Zby.l3 l l (l.length:Int) i = some ((l.drop i).all Zgd && decide ((l.length:Int) <= 4)) by
  have:=H l.length 0 (by omega)
  rwa [List.drop_zero] at this
 intro n
 induction n with
 | zero =>
   intro i e
   rw [Zby.l3_eq,Zah,if_neg (by omega),Zby.j8_eq,List.drop_eq_nil_of_le (by omega)]
   rfl
 | succ n ih =>
   intro i e
   obtain ⟨w,hw,hd⟩:=Zdr (l:=l) (i:=i) (by omega)
   rw [Zby.l3_eq,Zah,if_pos (by omega),Zcw,hw,Zac,iName_ok w (by have:=hz w (List.mem_of_getElem? hw); omega),Zac,Zck,Zc5 _ _ (by omega) (by omega),show (i:Int) + 1 = ((i + 1:Nat):Int) by omega,ih (i + 1) (by omega),hd,List.all_cons]
   cases Zgd w <;> simp [iteB]
def addTag (l:List ByteArray) (s:ByteArray):List ByteArray :=
 let k:=(l.takeWhile (fun y=>ltS y s)).length
 match l[k]? with
 | some y=>if y = s then l else l.take k ++ s :: l.drop k
 | none=>l.take k ++ s :: l.drop k
theorem addTag_len (l:List ByteArray) (s:ByteArray):(addTag l s).length <= l.length + 1:=by
 have hk:=(List.takeWhile_prefix (p:=fun y=>ltS y s) (l:=l)).length_le
 unfold addTag
 simp only
 split
 · split
   · omega
   · simp; omega
 · simp; omega
theorem l2Add_l2 (l:List ByteArray) (s:ByteArray) (hl:l.length <= 100000000000):∀ (n i:Nat),i + n = l.length -> Zbc.l2 l s i = Zbc.j4 l s ((i + ((l.drop i).takeWhile (fun y=>ltS y s)).length:Nat):Int)
 | 0,i,e=>by
   rw [Zbc.l2_eq,Zah,Zbg,if_neg (by omega),List.drop_eq_nil_of_le (by omega)]; simp
 | n + 1,i,e=>by
   obtain ⟨w,hw,hd⟩:=Zdr (l:=l) (i:=i) (by omega)
   rw [Zbc.l2_eq,Zah,Zbg,if_pos (by omega),Zcw,hw,Zac,hd,List.takeWhile_cons]
   cases h:ltS w s with
   | true =>
     rw [Zeu,Zc5 _ _ (by omega) (by omega),show (i:Int) + 1 = ((i + 1:Nat):Int) by omega,l2Add_l2 l s hl n (i + 1) (by omega)]
     simp only [if_true,List.length_cons]
     congr 1; omega
   | false=>rw [Ze7]; simp
theorem sAdd1_ok (l:List ByteArray) (s:ByteArray) (hl:l.length <= 100000000000):Zbc (l,s) = some (addTag l s):=by
 have hk:=(List.takeWhile_prefix (p:=fun y=>ltS y s) (l:=l)).length_le
 rw [spec_l2Add_eq,show (0:Int) = ((0:Nat):Int) from rfl,l2Add_l2 l s hl l.length 0 (by omega),List.drop_zero,Nat.zero_add]
 unfold addTag
 simp only
 generalize (l.takeWhile (fun y=>ltS y s)).length = k at hk ⊢
 have put:Zbc.j100006 l s (k:Int) = some (l.take k ++ s :: l.drop k):=by
  have c1:cutL l 0 (k:Int) = l.take k:=by unfold cutL; simp
  have c2:cutL l (k:Int) (lenL l) = l.drop k:=by unfold cutL lenL; simp
  have n1:(l.take k).length <= l.length:=by rw [List.length_take]; omega
  rw [Zbc.j100006_eq,c1,c2]
  simp only [appL_eq,List.nil_append]
  rw [Zd5,Zbg,if_pos (by omega),Zd5,if_pos (by omega),Zdb,if_pos (by rw [Zcr]; simp; omega),Zdb,if_pos (by rw [Zcr]; simp; omega),Zdb,if_pos (by rw [Zcr]; simp; omega),List.append_assoc]
  rfl
 rw [Zbc.j4_eq,Zah,Zbg,Zcw,put]
 by_cases h:k < l.length
 · rw [if_pos (by omega),List.getElem?_eq_getElem h,Zac,Zef]
   by_cases hh:l[k] = s
   · rw [if_pos hh]; simp only; rw [if_pos hh]
   · rw [if_neg hh]; simp only; rw [if_neg hh]
 · rw [if_neg (by omega),List.getElem?_eq_none (by omega)]
theorem sTags_ok (s:ByteArray) (hs:s.size <= 1048576):Za8 s = some (if (tagsL s).all Zgd = true then ((tagsL s).foldl addTag [],decide (((tagsL s).length:Int) <= 4)) else ([],false)):=by
 have hl:=tagsL_len s
 have hz:=tagsL_size s
 rw [spec_l2Tags_eq,Zd6,Zc5 _ _ (by omega) (by omega),show (s.size:Int) + 1 = ((s.size + 1:Nat):Int) by omega,sCut_ok s hs,Zac]
 show Za8.l4 0 (tagsL s) [] = _
 generalize tagsL s = l at hl hz ⊢
 have H:∀ (n i:Nat) (out:List ByteArray),i + n = l.length -> out.length <= i -> Za8.l4_1 out i l = some (if (l.drop i).all Zgd = true then ((l.drop i).foldl addTag out,decide ((l.length:Int) <= 4)) else ([],false)):=by
  intro n
  induction n with
  | zero =>
    intro i out e ho
    rw [Za8.l4_1_eq,Zah,Zbg,if_neg (by omega),Za8.j9_1_eq,List.drop_eq_nil_of_le (by omega)]
    simp only [List.all_nil,if_true,List.foldl_nil]
    rfl
  | succ n ih =>
    intro i out e ho
    obtain ⟨w,hw,hd⟩:=Zdr (l:=l) (i:=i) (by omega)
    have ha:=addTag_len out w
    rw [Za8.l4_1_eq,Zah,Zbg,if_pos (by omega),Zdh,if_pos (by omega),Zah,if_pos (by omega),Zcw,hw,Zac,sName_ok w (by have:=hz w (List.mem_of_getElem? hw); omega),Zac,Zck,Zdh,if_pos (by omega),Zah,if_pos (by omega),Zac,sAdd1_ok out w (by omega),Zac,Zc5 _ _ (by omega) (by omega),show (i:Int) + 1 = ((i + 1:Nat):Int) by omega,ih (i + 1) _ (by omega) (by omega),hd,List.all_cons,List.foldl_cons]
    cases Zgd w <;> simp [iteB]
 cases l with
 | nil =>
   rw [Za8.l4_eq,Zah,Zbg,if_neg (by simp),Za8.j9_eq]
   rfl
 | cons w r =>
   have hadd:Zbc (([]:List ByteArray),w) = some (addTag [] w):=sAdd1_ok [] w (by simp)
   have ha:=addTag_len [] w
   have hw0:atL (w :: r) 0 = some w:=rfl
   rw [Za8.l4_eq,Zah,Zbg,if_pos (by first | (simp; done) | (simp; omega)),Zdh,if_pos (by omega),Zah,if_pos (by first | (simp; done) | (simp; omega)),hw0,Zac,sName_ok w (by have:=hz w (by simp); omega),Zac,Zck,Zdh,if_pos (by omega),Zah,if_pos (by first | (simp; done) | (simp; omega)),Zac,hadd,Zac,show addI .i64 0 1 = ((1:Nat):Int) by decide,H r.length 1 _ (by simp; omega) (by simpa using ha),List.all_cons,List.foldl_cons]
   simp only [List.drop_succ_cons,List.drop_zero]
   cases Zgd w <;> simp [iteB]
theorem sTags_snd (s:ByteArray) (hs:s.size <= 1048576):∃ v,Za8 s = some (v,tagsB s):=by
 rw [sTags_ok s hs]
 unfold tagsB
 cases h:(tagsL s).all Zgd with
 | true=>exact ⟨_,by rw [if_pos rfl,Bool.true_and]⟩
 | false=>exact ⟨_,by rw [if_neg (by simp),Bool.false_and]⟩
def textB (s:ByteArray):Bool:=(toL s).all seenB && decide ((s.size:Int) <= 60)
abbrev DocT:=ByteArray × List CT2
def SzD (d:DocT):Prop:=d.1.size <= 1048576 /\ OkC d.2
def Zhy (cells:List CT2) (i:Nat):Bool:=match cells[i]? with
 | some c=>Zgd c.1 && (textB c.2 && (decide (i = 0) || match cells[i - 1]? with
   | some p=>ltS p.1 c.1
   | none=>false))
 | none=>false
def formB (d:DocT):Bool:=(List.range' 0 d.2.length).all (Zhy d.2) && (Zgd d.1 && decide ((d.2.length:Int) <= 4))
theorem iForm_ok (d:DocT) (hd:SzD d):Zat d = some (formB d):=by
 obtain ⟨h1,h2,h3⟩:=hd
 have:=Zf9 (l:=fun i=>Zat.l2 d.2 (d.2.length:Int) i d.1 d.2) (n:=d.2.length) (p:=Zhy d.2) (fin:=Zgd d.1 && decide ((d.2.length:Int) <= 4)) (fun i hi=>?_) ?_ d.2.length 0 (by omega)
 · rw [show d = (d.1,d.2) from rfl,impl_wellFormed_eq,Zbg]; exact this
 · have hx:d.2[i]? = some d.2[i]:=List.getElem?_eq_getElem hi
   have hm:=h3 _ (List.getElem_mem hi)
   have hcf:Zhy d.2 i = (Zgd d.2[i].1 && (textB d.2[i].2 && (decide (i = 0) || match d.2[i - 1]? with
     | some p=>ltS p.1 d.2[i].1
     | none=>false))):=by unfold Zhy; rw [hx]
   show Zat.l2 d.2 (d.2.length:Int) i d.1 d.2 = _
   rw [Zat.l2_eq,Zah,if_pos (by omega),Zcw,hx]
   simp only [Zac]
   rw [iName_ok _ hm.2,Zac,Zck,textOk_ok _ hm.1,Zac,Zck,Zc5 _ _ (by omega) (by omega),show (i:Int) + 1 = ((i + 1:Nat):Int) by omega,Zah,hcf]
   show iteB (Zgd d.2[i].1) (iteB (textB d.2[i].2) _ _) _ = _
   cases Zgd d.2[i].1 with
   | false=>simp [iteB]
   | true =>
     cases textB d.2[i].2 with
     | false=>simp [iteB]
     | true =>
       rw [Zeu,Zeu]
       by_cases h0:i = 0
       · subst h0; simp
       · rw [if_pos (by omega),Zkf _ _ (by omega) (by omega),show (i:Int) - 1 = ((i - 1:Nat):Int) by omega,Zcw,List.getElem?_eq_getElem (show i - 1 < d.2.length by omega)]
         simp only [Zac,Zck,Bool.true_and,h0,decide_false,Bool.false_or]
         rfl
 · show Zat.l2 d.2 (d.2.length:Int) (d.2.length:Int) d.1 d.2 = _
   rw [Zat.l2_eq,Zah,if_neg (by omega),Zat.j7_eq,iName_ok _ h1,Zac]
   cases Zgd d.1 <;> rfl
theorem sForm_ok (d:DocT) (hd:SzD d):Zbs d = some (formB d):=by
 obtain ⟨h1,h2,h3⟩:=hd
 have:=Zf9 (l:=fun i=>Zbs.l2 i d.1 d.2) (n:=d.2.length) (p:=Zhy d.2) (fin:=Zgd d.1 && decide ((d.2.length:Int) <= 4)) (fun i hi=>?_) ?_ d.2.length 0 (by omega)
 · rw [show d = (d.1,d.2) from rfl,spec_l2Form_eq]; exact this
 · have hx:d.2[i]? = some d.2[i]:=List.getElem?_eq_getElem hi
   have hm:=h3 _ (List.getElem_mem hi)
   have hcf:Zhy d.2 i = (Zgd d.2[i].1 && (textB d.2[i].2 && (decide (i = 0) || match d.2[i - 1]? with
     | some p=>ltS p.1 d.2[i].1
     | none=>false))):=by unfold Zhy; rw [hx]
   show Zbs.l2 i d.1 d.2 = _
   rw [Zbs.l2_eq,Zah,Zbg,if_pos (by omega),Zcw,hx]
   simp only [Zac]
   rw [sName_ok _ hm.2,Zac,Zck,l2Text_ok _ hm.1,Zac,Zck,Zc5 _ _ (by omega) (by omega),show (i:Int) + 1 = ((i + 1:Nat):Int) by omega,Zah,hcf]
   show iteB (Zgd d.2[i].1) (iteB (textB d.2[i].2) _ _) _ = _
   cases Zgd d.2[i].1 with
   | false=>simp [iteB]
   | true =>
     cases textB d.2[i].2 with
     | false=>simp [iteB]
     | true =>
       rw [Zeu,Zeu]
       by_cases h0:i = 0
       · subst h0; simp
       · rw [if_pos (by omega),Zkf _ _ (by omega) (by omega),show (i:Int) - 1 = ((i - 1:Nat):Int) by omega,Zcw,List.getElem?_eq_getElem (show i - 1 < d.2.length by omega)]
         simp only [Zac,Zck,Bool.true_and,h0,decide_false,Bool.false_or]
         rfl
 · show Zbs.l2 (d.2.length:Int) d.1 d.2 = _
   rw [Zbs.l2_eq,Zah,Zbg,if_neg (by omega),Zbs.j6_eq,sName_ok _ h1,Zac]
   cases Zgd d.1 <;> rfl
end Go.E
namespace Go.E
open Go
def cellB (fields:FLs) (c:CT2):Bool:=match Zeo fields c.1 with
 | some k=>decide (k = 1) || (decide (k = 2) && (numV c.2).2 || decide (k = 3) && tagsB c.2)
 | none=>false
def docB (fields:FLs) (d:DocT):Bool:=Zh3 fields && (formB d && d.2.all (cellB fields))
def SzF (fields:FLs):Prop:=fields.length <= 1048576 /\ ∀ f ∈ fields,f.1.size <= 1048576
theorem iDoc_ok (fields:FLs) (hf:SzF fields) (d:DocT) (hd:SzD d):Zbw (fields,d) = some (docB fields d):=by
 obtain ⟨h2,h3⟩:=hd.2
 rw [impl_DocOk_eq,iFields_ok fields hf.1 hf.2,Zac,Zck]
 rw [show ((d.1,d.2):DocT) = d from rfl,iForm_ok d hd,Zbg]
 unfold docB
 suffices H:∀ (n i:Nat),i + n = d.2.length -> Zbw.l4 fields d.2 (d.2.length:Int) i = some ((d.2.drop i).all (cellB fields)) by
  have:=H d.2.length 0 (by omega)
  rw [List.drop_zero] at this
  rw [show (0:Int) = ((0:Nat):Int) from rfl,this]
  cases Zh3 fields with
  | false=>rfl
  | true =>
    rw [Zeu,Zac,Zck]
    cases formB d <;> rfl
 intro n
 induction n with
 | zero =>
   intro i e
   rw [Zbw.l4_eq,Zah,if_neg (by omega),Zbw.j17_eq,List.drop_eq_nil_of_le (by omega)]
   rfl
 | succ n ih =>
   intro i e
   obtain ⟨c,hc,hdr⟩:=Zdr (l:=d.2) (i:=i) (by omega)
   have hm:=h3 c (List.mem_of_getElem? hc)
   obtain ⟨f,f1,f2⟩:=iField_ok fields c.1 hf.1
   have hnext:Zbw.j16 fields d.2 (d.2.length:Int) i = some ((d.2.drop (i + 1)).all (cellB fields)):=by
    rw [Zbw.j16_eq,Zc5 _ _ (by omega) (by omega),show (i:Int) + 1 = ((i + 1:Nat):Int) by omega]
    exact ih (i + 1) (by omega)
   rw [Zbw.l4_eq,Zah,if_pos (by omega),Zcw,hc,Zac,f1,Zac,f2,Zci,Zci,Zci,hnext,hdr,List.all_cons,iNumber_ok _ (by omega),Zac,Zck,iTags_ok _ hm.1,Zac,Zck]
   have hcb:cellB fields c = match Zeo fields c.1 with
     | some k=>decide (k = 1) || (decide (k = 2) && (numV c.2).2 || decide (k = 3) && tagsB c.2)
     | none=>false:=rfl
   rw [hcb]
   cases Zeo fields c.1 with
   | none=>rfl
   | some k =>
     simp only [Option.getD_some]
     by_cases k1:k = 1
     · rw [if_pos k1]; simp [k1]
     · rw [if_neg k1]
       by_cases k2:k = 2
       · rw [if_pos k2]
         subst k2
         cases (numV c.2).2 <;> simp [iteB]
       · rw [if_neg k2]
         by_cases k3:k = 3
         · rw [if_pos k3]
           subst k3
           cases tagsB c.2 <;> simp [iteB]
         · rw [if_neg k3]; simp [k1,k2,k3]
theorem sCell_ok (f:FT) (s:ByteArray) (hs:s.size <= 1048576):Zdk (f,s) = some (textB s && (decide (f.2.1 = 1) || (decide (f.2.1 = 2) && (numV s).2 || decide (f.2.1 = 3) && tagsB s))):=by
 obtain ⟨n,n1,_⟩:=sNumber_ok s hs
 obtain ⟨v,v1⟩:=sTags_snd s hs
 rw [spec_l2Cell_eq,n1,Zac,v1,Zac,l2Text_ok s hs,Zac,Zci,Zci,Zci]
 show iteB (textB s) _ _ = _
 cases textB s with
 | false=>rfl
 | true =>
   rw [Zeu]
   by_cases k1:f.2.1 = 1
   · rw [if_pos k1]; simp [k1]
   · rw [if_neg k1]
     by_cases k2:f.2.1 = 2
     · rw [if_pos k2]
       cases (numV s).2 <;> simp [iteB,k2]
     · rw [if_neg k2]
       by_cases k3:f.2.1 = 3
       · rw [if_pos k3]; simp [k3]
       · rw [if_neg k3]; simp [k1,k2,k3]
theorem form_texts {d:DocT} (h:formB d = true):∀ c ∈ d.2,textB c.2 = true:=fun c hc=>by
 unfold formB at h
 rw [Bool.and_eq_true,List.all_eq_true] at h
 obtain ⟨i,hi⟩:=List.getElem?_of_mem hc
 have hlt:=(List.getElem?_eq_some_iff.1 hi).1
 have:=h.1 i (List.mem_range'.2 ⟨i,hlt,by omega⟩)
 unfold Zhy at this
 rw [hi] at this
 simp only [Bool.and_eq_true] at this
 exact this.2.1
theorem sDoc_ok (fields:FLs) (hf:SzF fields) (d:DocT) (hd:SzD d):Zb3 (fields,d) = some (docB fields d):=by
 obtain ⟨h2,h3⟩:=hd.2
 rw [spec_DocOk_eq]
 suffices H:∀ (n i:Nat),i + n = d.2.length -> Zb3.l2 fields i d.1 d.2 = some ((d.2.drop i).all (fun c=>textB c.2 && cellB fields c) && (Zh3 fields && formB d)) by
  have:=H d.2.length 0 (by omega)
  rw [List.drop_zero] at this
  rw [show (0:Int) = ((0:Nat):Int) from rfl,this]
  unfold docB
  congr 1
  cases hfo:formB d with
  | false=>simp
  | true =>
    have ht:=form_texts hfo
    have e1:d.2.all (fun c=>textB c.2 && cellB fields c) = d.2.all (cellB fields):=by
     rw [Bool.eq_iff_iff,List.all_eq_true,List.all_eq_true]
     constructor
     · intro h c hc
       have:=h c hc
       rw [Bool.and_eq_true] at this; exact this.2
     · intro h c hc
       rw [ht c hc,h c hc]; rfl
    rw [e1,Bool.and_comm]
    simp
 intro n
 induction n with
 | zero =>
   intro i e
   rw [Zb3.l2_eq,Zah,Zbg,if_neg (by omega),Zb3.j7_eq,sFields_ok fields hf.1 hf.2,Zac,show ((d.1,d.2):DocT) = d from rfl,sForm_ok d hd,Zac,List.drop_eq_nil_of_le (by omega)]
   cases Zh3 fields <;> rfl
 | succ n ih =>
   intro i e
   obtain ⟨c,hc,hdr⟩:=Zdr (l:=d.2) (i:=i) (by omega)
   have hm:=h3 c (List.mem_of_getElem? hc)
   have hn:=ih (i + 1) (by omega)
   rw [Zb3.l2_eq,Zah,Zbg,if_pos (by omega),Zcw,hc,Zac,Zc5 _ _ (by omega) (by omega),show (i:Int) + 1 = ((i + 1:Nat):Int) by omega,hn,hdr,List.all_cons,Zf6]
   have hcb:cellB fields c = match Zeo fields c.1 with
     | some k=>decide (k = 1) || (decide (k = 2) && (numV c.2).2 || decide (k = 3) && tagsB c.2)
     | none=>false:=rfl
   rw [hcb]
   rcases Zhw fields c.1 hf.1 fields.length 0 (by omega) with ⟨g1,g2⟩ | ⟨j,f,g1,g2,g3,g4⟩
   · rw [List.drop_zero] at g2
     rw [show (0:Int) = ((0:Nat):Int) from rfl,g1,Zac,Zah,if_pos (by omega),g2]
     simp
   · rw [List.drop_zero] at g4
     rw [show (0:Int) = ((0:Nat):Int) from rfl,g1,Zac,Zah,if_neg (by omega),Zcw,g2,Zac,Zac,sCell_ok f c.2 hm.1,Zac,Zck,g4]
     simp only
     cases textB c.2 && (decide (f.2.1 = 1) || (decide (f.2.1 = 2) && (numV c.2).2 || decide (f.2.1 = 3) && tagsB c.2)) <;> rfl
theorem eq_loop {α:Type} (a b:List α) (hl:a.length = b.length) {l:Int -> Option Bool} {p:α -> α -> Bool} (h:∀ (i:Nat) x y,a[i]? = some x -> b[i]? = some y -> l i = if p x y = true then l ((i + 1:Nat):Int) else some false) (h':l (a.length:Int) = some true) (hp:∀ x y,p x y = true ↔ x = y) [DecidableEq α]:l 0 = some (decide (a = b)):=by
 suffices H:∀ (n i:Nat),i + n = a.length -> l i = some (decide (a.drop i = b.drop i)) by
  have:=H a.length 0 (by omega)
  simpa using this
 intro n
 induction n with
 | zero =>
   intro i e
   have:i = a.length:=by omega
   rw [this,h',List.drop_eq_nil_of_le (Nat.le_refl _),List.drop_eq_nil_of_le (by omega)]
   simp
 | succ n ih =>
   intro i e
   obtain ⟨x,hx,hd⟩:=Zdr (l:=a) (i:=i) (by omega)
   obtain ⟨y,hy,hd'⟩:=Zdr (l:=b) (i:=i) (by omega)
   rw [h i x y hx hy,hd,hd',ih (i + 1) (by omega)]
   by_cases hxy:x = y
   · rw [if_pos ((hp x y).2 hxy)]
     simp [hxy]
   · rw [if_neg (fun e=>hxy ((hp x y).1 e))]
     simp [hxy]
theorem eqI_iff (x y:Int):eqI x y = true ↔ x = y:=by unfold eqI; simp
theorem iInts_ok (a b:List Int) (ha:a.length <= 1000000000000):Zai (a,b) = some (decide (a = b)):=by
 rw [Zi0,Zck,Zci,Zbg,Zbg]
 by_cases h:a.length = b.length
 · rw [if_pos (by omega)]
   refine eq_loop a b h (l:=fun i=>Zai.l4 a b (a.length:Int) i) (p:=eqI) (fun i x y hx hy=>?_) ?_ eqI_iff
   · have hi:=(List.getElem?_eq_some_iff.1 hx).1
     show Zai.l4 a b (a.length:Int) i = _
     rw [Zai.l4_eq,Zah,if_pos (by omega),Zcw,Zcw,hx,hy,Zac,Zac,Zck,Zc5 _ _ (by omega) (by omega),show (i:Int) + 1 = ((i + 1:Nat):Int) by omega]
     rfl
   · show Zai.l4 a b (a.length:Int) (a.length:Int) = _
     rw [Zai.l4_eq,Zah,if_neg (by omega),Zai.j9_eq]
 · rw [if_neg (by omega),decide_eq_false (fun e=>h (by rw [e]))]
theorem sInts_ok (a b:List Int) (ha:a.length <= 1000000000000):Zbv (a,b) = some (decide (a = b)):=by
 rw [spec_l4Ints_eq,Zck,Zci,Zbg,Zbg]
 by_cases h:a.length = b.length
 · rw [if_pos (by omega)]
   refine eq_loop a b h (l:=fun i=>Zbv.l4 a b i) (p:=eqI) (fun i x y hx hy=>?_) ?_ eqI_iff
   · have hi:=(List.getElem?_eq_some_iff.1 hx).1
     show Zbv.l4 a b i = _
     rw [Zbv.l4_eq,Zah,Zbg,if_pos (by omega),Zcw,Zcw,hx,hy,Zac,Zac,Zck,Zc5 _ _ (by omega) (by omega),show (i:Int) + 1 = ((i + 1:Nat):Int) by omega]
     rfl
   · show Zbv.l4 a b (a.length:Int) = _
     rw [Zbv.l4_eq,Zah,Zbg,if_neg (by omega),Zbv.j8_eq]
 · rw [if_neg (by omega),decide_eq_false (fun e=>h (by rw [e]))]
theorem samePost_ok (a b:Int × List Int) (ha:a.2.length <= 1000000000000):Zc2 (a,b) = some (decide (a = b)):=by
 rw [impl_samePost_eq,Zci,iInts_ok _ _ ha,Zac]
 by_cases h:a.1 = b.1
 · rw [if_pos h]
   congr 1
   rw [decide_eq_decide]
   exact ⟨fun e=>Prod.ext h e,fun e=>by rw [e]⟩
 · rw [if_neg h,decide_eq_false (fun e=>h (by rw [e]))]
theorem iPosts_ok (a b:Pst) (ha:a.length <= 1000000000000) (hx:∀ x ∈ a,x.2.length <= 1000000000000):Zab (a,(b,PUnit.unit)) = some (decide (a = b)):=by
 rw [Zeh,Zck,Zci,Zbg,Zbg]
 by_cases h:a.length = b.length
 · rw [if_pos (by omega)]
   refine eq_loop a b h (l:=fun i=>Zab.l4 b a (a.length:Int) i) (p:=fun x y=>decide (x = y)) (fun i x y hxi hy=>?_) ?_ (fun x y=>decide_eq_true_iff)
   · have hi:=(List.getElem?_eq_some_iff.1 hxi).1
     have hm:=hx x (List.mem_of_getElem? hxi)
     show Zab.l4 b a (a.length:Int) i = _
     rw [Zab.l4_eq,Zah,if_pos (by omega),Zcw,Zcw,hxi,hy,Zac,Zac,show ((x.1,x.2),(y.1,y.2)) = (x,y) from rfl,samePost_ok x y hm,Zac,Zck,Zc5 _ _ (by omega) (by omega),show (i:Int) + 1 = ((i + 1:Nat):Int) by omega]
     rfl
   · show Zab.l4 b a (a.length:Int) (a.length:Int) = _
     rw [Zab.l4_eq,Zah,if_neg (by omega),Zab.j10_eq]
 · rw [if_neg (by omega),decide_eq_false (fun e=>h (by rw [e]))]
def SzE (l:List Ent):Prop:=l.length <= 1000000000000 /\ ∀ e ∈ l,e.2.2.length <= 1000000000000 /\ ∀ x ∈ e.2.2,x.2.length <= 1000000000000
theorem sameEntry_ok (a b:Ent) (ha:a.2.2.length <= 1000000000000) (hx:∀ x ∈ a.2.2,x.2.length <= 1000000000000):Zcu (a,b) = some (decide (a = b)):=by
 rw [impl_sameEntry_eq,Zef,Zef,iPosts_ok _ _ ha hx,Zac]
 by_cases h:a.1 = b.1
 · rw [if_pos h]
   by_cases k:a.2.1 = b.2.1
   · rw [if_pos k]
     congr 1
     rw [decide_eq_decide]
     exact ⟨fun e=>Prod.ext h (Prod.ext k e),fun e=>by rw [e]⟩
   · rw [if_neg k,decide_eq_false (fun e=>k (by rw [e]))]
 · rw [if_neg h,decide_eq_false (fun e=>h (by rw [e]))]
theorem iEnts_ok (a b:List Ent) (ha:SzE a):Zaa (a,(b,PUnit.unit)) = some (decide (a = b)):=by
 have hal:=ha.1
 rw [Zec,Zck,Zci,Zbg,Zbg]
 by_cases h:a.length = b.length
 · rw [if_pos (by omega)]
   refine eq_loop a b h (l:=fun i=>Zaa.l4 b a (a.length:Int) i) (p:=fun x y=>decide (x = y)) (fun i x y hxi hy=>?_) ?_ (fun x y=>decide_eq_true_iff)
   · have hi:=(List.getElem?_eq_some_iff.1 hxi).1
     have hm:=ha.2 x (List.mem_of_getElem? hxi)
     show Zaa.l4 b a (a.length:Int) i = _
     rw [Zaa.l4_eq,Zah,if_pos (by omega),Zcw,Zcw,hxi,hy,Zac,Zac,show ((x.1,(x.2.1,x.2.2)),(y.1,(y.2.1,y.2.2))) = (x,y) from rfl,sameEntry_ok x y hm.1 hm.2,Zac,Zck,Zc5 _ _ (by omega) (by omega),show (i:Int) + 1 = ((i + 1:Nat):Int) by omega]
     rfl
   · show Zaa.l4 b a (a.length:Int) (a.length:Int) = _
     rw [Zaa.l4_eq,Zah,if_neg (by omega),Zaa.j10_eq]
 · rw [if_neg (by omega),decide_eq_false (fun e=>h (by rw [e]))]
end Go.E
namespace Go.E
open Go
theorem same_l9 (a b:List Ent) (i:Nat) (x y:Ent) (hx:a[i]? = some x) (hy:b[i]? = some y) (hl:x.2.2.length = y.2.2.length) (hz:x.2.2.length <= 1000000000000) (hp:∀ q ∈ x.2.2,q.2.length <= 1000000000000):∀ (n j:Nat),j + n = x.2.2.length ->
  Za3.l9 a b i j = if x.2.2.drop j = y.2.2.drop j then Za3.j5 a b i else some false
 | 0,j,e=>by
   rw [Za3.l9_eq,Zcw,hx,Zac,Zah,Zbg,if_neg (by omega),List.drop_eq_nil_of_le (by omega),List.drop_eq_nil_of_le (by omega),if_pos rfl]
 | n + 1,j,e=>by
   obtain ⟨p,hpj,hd⟩:=Zdr (l:=x.2.2) (i:=j) (by omega)
   obtain ⟨q,hqj,hd'⟩:=Zdr (l:=y.2.2) (i:=j) (by omega)
   have hm:=hp p (List.mem_of_getElem? hpj)
   rw [Za3.l9_eq,Zcw,hx]
   simp only [Zac]
   rw [Zah,Zbg,if_pos (by omega),Zcw,hpj,Zcw,hy]
   simp only [Zac]
   rw [Zcw,hqj]
   simp only [Zac]
   rw [Zck,Zci,sInts_ok _ _ hm,Zac,Zck,Zew,Zc5 _ _ (by omega) (by omega),show (j:Int) + 1 = ((j + 1:Nat):Int) by omega,same_l9 a b i x y hx hy hl hz hp n (j + 1) (by omega),hd,hd']
   by_cases h1:p.1 = q.1
   · rw [if_pos h1]
     by_cases h2:p.2 = q.2
     · rw [if_pos h2]
       have hpq:p = q:=Prod.ext h1 h2
       by_cases h3:x.2.2.drop (j + 1) = y.2.2.drop (j + 1)
       · rw [if_pos h3,if_pos (by rw [hpq,h3])]
       · rw [if_neg h3,if_neg (fun e=>h3 (List.cons.inj e).2)]
     · rw [if_neg h2,if_neg (fun e=>h2 (by rw [(List.cons.inj e).1]))]
   · rw [if_neg h1,if_neg (fun e=>h1 (by rw [(List.cons.inj e).1]))]
theorem sSame_ok (a b:List Ent) (ha:SzE a):Za3 (a,b) = some (decide (a = b)):=by
 have hal:=ha.1
 rw [spec_l4Same_eq,Zck,Zci,Zbg,Zbg]
 by_cases h:a.length = b.length
 · rw [if_pos (by omega)]
   refine eq_loop a b h (l:=fun i=>Za3.l4 a b i) (p:=fun x y=>decide (x = y)) (fun i x y hxi hy=>?_) ?_ (fun x y=>decide_eq_true_iff)
   · have hi:=(List.getElem?_eq_some_iff.1 hxi).1
     have hm:=ha.2 x (List.mem_of_getElem? hxi)
     show Za3.l4 a b i = _
     rw [Za3.l4_eq,Zah,Zbg,if_pos (by omega),Zcw,Zcw,hxi,hy]
     simp only [Zac]
     rw [Zck,Zef,Zck,Zef,Zck,Zci,Zbg,Zbg]
     by_cases h1:x.1 = y.1
     · rw [if_pos h1]
       by_cases h2:x.2.1 = y.2.1
       · rw [if_pos h2]
         by_cases h3:x.2.2.length = y.2.2.length
         · rw [if_pos (by omega),show (0:Int) = ((0:Nat):Int) from rfl,same_l9 a b i x y hxi hy h3 hm.1 hm.2 x.2.2.length 0 (by omega),List.drop_zero,List.drop_zero,Za3.j5_eq,Zc5 _ _ (by omega) (by omega),show (i:Int) + 1 = ((i + 1:Nat):Int) by omega]
           by_cases h4:x.2.2 = y.2.2
           · rw [if_pos h4,if_pos (decide_eq_true (Prod.ext h1 (Prod.ext h2 h4)))]
           · rw [if_neg h4,if_neg (by simpa using fun e=>h4 (by rw [e]))]
         · rw [if_neg (by omega),if_neg (by simpa using fun e=>h3 (by rw [e]))]
       · rw [if_neg h2,if_neg (by simpa using fun e=>h2 (by rw [e]))]
     · rw [if_neg h1,if_neg (by simpa using fun e=>h1 (by rw [e]))]
   · show Za3.l4 a b (a.length:Int) = _
     rw [Za3.l4_eq,Zah,Zbg,if_neg (by omega),Za3.j13_eq]
 · rw [if_neg (by omega),decide_eq_false (fun e=>h (by rw [e]))]
def ixF:List RwT -> ByteArray -> Nat -> Int
 | [],_,_=>-1
 | r :: t,k,i=>if r.2.1 = k then (i:Int) else ixF t k (i + 1)
theorem ixF_nil (k:ByteArray) (i:Nat):ixF [] k i = -1:=rfl
theorem ixF_cons (r:RwT) (t:List RwT) (k:ByteArray) (i:Nat):ixF (r :: t) k i = if r.2.1 = k then (i:Int) else ixF t k (i + 1):=rfl
theorem sKey_ok (rows:List RwT) (k:ByteArray) (hl:rows.length <= 1048576):Zcc (rows,k) = some (ixF rows k 0):=by
 rw [spec_l4Key_eq]
 suffices H:∀ (n i:Nat),i + n = rows.length -> Zcc.l2 rows k i = some (ixF (rows.drop i) k i) by
  have:=H rows.length 0 (by omega)
  rwa [List.drop_zero] at this
 intro n
 induction n with
 | zero=>intro i e; rw [Zcc.l2_eq,Zah,Zbg,if_neg (by omega),Zcc.j6_eq,List.drop_eq_nil_of_le (by omega),ixF_nil]
 | succ n ih =>
   intro i e
   obtain ⟨r,hr,hd⟩:=Zdr (l:=rows) (i:=i) (by omega)
   rw [Zcc.l2_eq,Zah,Zbg,if_pos (by omega),Zcw,hr,Zac,Zef,hd,ixF_cons,Zc5 _ _ (by omega) (by omega),show (i:Int) + 1 = ((i + 1:Nat):Int) by omega,ih (i + 1) (by omega)]
   split <;> rfl
theorem iRow_ok (x:FLs × (List RwT × (List Ent × Int))) (k:ByteArray) (hl:x.2.1.length <= 1048576):Zcy (x,k) = some (ixF x.2.1 k 0):=by
 rw [impl_Index_row_eq,Zfx,Zbg]
 suffices H:∀ (n i:Nat),i + n = x.2.1.length -> Zad.l2 x.2.1 k (x.2.1.length:Int) i = some (ixF (x.2.1.drop i) k i) by
  have:=H x.2.1.length 0 (by omega)
  rw [List.drop_zero] at this
  rw [show (0:Int) = ((0:Nat):Int) from rfl,this,Zac]
 intro n
 induction n with
 | zero=>intro i e; rw [Zad.l2_eq,Zah,if_neg (by omega),Zad.j7_eq,List.drop_eq_nil_of_le (by omega),ixF_nil]
 | succ n ih =>
   intro i e
   obtain ⟨r,hr,hd⟩:=Zdr (l:=x.2.1) (i:=i) (by omega)
   rw [Zad.l2_eq,Zah,if_pos (by omega),Zcw,hr,Zac,impl_Index_row_1_eq,Zac,Zef,hd,ixF_cons,Zc5 _ _ (by omega) (by omega),show (i:Int) + 1 = ((i + 1:Nat):Int) by omega,ih (i + 1) (by omega)]
   split <;> rfl
abbrev IdxT:=FLs × (List RwT × (List Ent × Int))
def SzR (rows:List RwT):Prop:=rows.length <= 1048576 /\ ∀ r ∈ rows,SzD r.2
def SzX (x:IdxT):Prop:=SzF x.1 /\ SzR x.2.1 /\ SzE x.2.2.1
def rowB (fields:FLs) (rows:List RwT) (nx:Int) (i:Nat):Bool:=match rows[i]? with
 | some r=>docB fields r.2 && (decide (ixF rows r.2.1 0 = (i:Int)) && (decide (0 <= r.1 /\ r.1 <= nx) && (decide (i = 0) || match rows[i - 1]? with
   | some p=>decide (p.1 < r.1)
   | none=>false)))
 | none=>false
def ixOkB (x:IdxT):Bool:=Zh3 x.1 && (decide ((x.2.1.length:Int) <= 8) && (decide (0 <= x.2.2.2 /\ x.2.2.2 <= 999999999) && ((List.range' 0 x.2.1.length).all (rowB x.1 x.2.1 (subI .i64 x.2.2.2 1)) && decide (x.2.2.1 = madeV x.1 x.2.1))))
theorem doc_small {fields:FLs} {d:DocT} (h:docB fields d = true):d.2.length <= 4 /\ ∀ c ∈ d.2,c.2.size <= 60:=by
 unfold docB at h
 simp only [Bool.and_eq_true] at h
 have hf:=h.2.1
 refine ⟨?_,fun c hc=>?_⟩
 · unfold formB at hf
   simp only [Bool.and_eq_true,decide_eq_true_eq] at hf
   omega
 · have:=form_texts hf c hc
   unfold textB at this
   simp only [Bool.and_eq_true,decide_eq_true_eq] at this
   omega
theorem evC_small (fields:FLs) (doc:Int):∀ (cells:List CT2),(∀ c ∈ cells,c.2.size <= 60) -> (evC fields doc cells).length <= 61 * cells.length
 | [],_=>by simp [evC]
 | c :: r,h=>by
   have ih:=evC_small fields doc r (fun x hx=>h x (List.mem_cons_of_mem _ hx))
   have h1:=h c (List.mem_cons_self ..)
   rw [evC_cons,List.length_append,List.length_cons]
   have:(if Zeo fields c.1 = some 1 then evT c.1 doc (Zf5 c.2) 0 else []).length <= 61:=by
    split
    · have:=evT_len c.1 doc (Zf5 c.2) 0
      have:=termsV_len2 c.2
      omega
    · simp
   omega
theorem evR_small (fields:FLs):∀ (rows:List RwT),(∀ r ∈ rows,docB fields r.2 = true) -> (evR fields rows).length <= 244 * rows.length
 | [],_=>by simp [evR]
 | x :: r,h=>by
   have ih:=evR_small fields r (fun y hy=>h y (List.mem_cons_of_mem _ hy))
   obtain ⟨h1,h2⟩:=doc_small (h x (List.mem_cons_self ..))
   have:=evC_small fields x.1 x.2.2 h2
   rw [evR_cons,List.length_append,List.length_cons]
   omega
theorem rows_docs {fields:FLs} {rows:List RwT} {nx:Int} (h:(List.range' 0 rows.length).all (rowB fields rows nx) = true):∀ r ∈ rows,docB fields r.2 = true:=fun r hr=>by
 rw [List.all_eq_true] at h
 obtain ⟨i,hi⟩:=List.getElem?_of_mem hr
 have hlt:=(List.getElem?_eq_some_iff.1 hi).1
 have:=h i (List.mem_range'.2 ⟨i,hlt,by omega⟩)
 unfold rowB at this
 rw [hi] at this
 simp only [Bool.and_eq_true] at this
 exact this.1
theorem bd_sz {l:List Ent} {N:Nat} (h:Bd l N) (hN:N <= 1000000000000):SzE l :=
 ⟨Nat.le_trans h.1 hN,fun e he=>⟨Nat.le_trans (h.2 e he).2.1 hN,fun x hx=>Nat.le_trans ((h.2 e he).2.2 x hx) hN⟩⟩
theorem made_bd (fields:FLs) (rows:List RwT):Bd (madeV fields rows) (evR fields rows).length:=by
 have:=bd_fold (evR fields rows) (l:=[]) (N:=0) ⟨Nat.le_refl _,fun e h=>nomatch h⟩
 rwa [Nat.zero_add] at this
theorem okR_of (rows:List RwT) (h:SzR rows):OkR rows:=⟨h.1,fun r hr=>(h.2 r hr).2⟩
theorem loop_stop {l:Int -> Option Bool} {n:Nat} {p:Nat -> Bool} (h:∀ i:Nat,i < n -> l i = if p i = true then l ((i + 1:Nat):Int) else some false):∀ k i:Nat,i + k = n -> (List.range' i k).all p = false -> l i = some false
 | 0,i,e,hf=>by simp at hf
 | k + 1,i,e,hf=>by
   rw [h i (by omega)]
   rw [List.range'_succ,List.all_cons] at hf
   cases hp:p i with
   | false=>rfl
   | true =>
     rw [hp,Bool.true_and] at hf
     rw [if_pos rfl]
     exact loop_stop h k (i + 1) (by omega) hf
theorem iRow_step (fields:FLs) (hf:SzF fields) (rows:List RwT) (hr:SzR rows) (ents:List Ent) (next:Int) (i:Nat) (hi:i < rows.length) :
  Zbe.l4 rows (rows.length:Int) i fields rows ents next = if rowB fields rows (subI .i64 next 1) i = true then Zbe.l4 rows (rows.length:Int) ((i + 1:Nat):Int) fields rows ents next else some false:=by
 have hrl:=hr.1
 have hx:rows[i]? = some rows[i]:=List.getElem?_eq_getElem hi
 have hm:=hr.2 _ (List.getElem_mem hi)
 have hrb:rowB fields rows (subI .i64 next 1) i = (docB fields rows[i].2 && (decide (ixF rows rows[i].2.1 0 = (i:Int)) && (decide (0 <= rows[i].1 /\ rows[i].1 <= subI .i64 next 1) && (decide (i = 0) || match rows[i - 1]? with
  | some p=>decide (p.1 < rows[i].1)
  | none=>false)))):=by unfold rowB; rw [hx]
 rw [Zbe.l4_eq,Zah,if_pos (by omega),Zcw,hx]
 simp only [Zac]
 rw [Zgw,Zac,Zck,Zah,show ((rows[i].2.1,rows[i].2.2):DocT) = rows[i].2 from rfl,iDoc_ok fields hf _ hm,Zac,Zck,iRow_ok _ _ hrl,Zac,Zck,Zc5 _ _ (by omega) (by omega),show (i:Int) + 1 = ((i + 1:Nat):Int) by omega,hrb]
 simp only
 rw [Zew,Zci]
 generalize Zbe.l4 rows (rows.length:Int) ((i + 1:Nat):Int) fields rows ents next = K
 by_cases h1:0 <= rows[i].1 /\ rows[i].1 <= subI .i64 next 1
 · rw [if_pos h1,decide_eq_true h1]
   have inner:iteB (docB fields rows[i].2) (if ixF rows rows[i].2.1 0 = (i:Int) then K else some false) (some false) = if (docB fields rows[i].2 && decide (ixF rows rows[i].2.1 0 = (i:Int))) = true then K else some false:=by
    cases docB fields rows[i].2 with
    | false=>rfl
    | true=>rw [Zeu]; simp
   by_cases h0:i = 0
   · rw [if_neg (by omega),inner]
     subst h0
     simp
   · rw [if_pos (by omega),Zkf (i:Int) 1 (by omega) (by omega),show (i:Int) - 1 = ((i - 1:Nat):Int) by omega,Zcw,List.getElem?_eq_getElem (show i - 1 < rows.length by omega)]
     simp only [Zac,Zdh]
     by_cases hp:rows[i].1 <= rows[i - 1].1
     · rw [if_pos hp]
       simp [h0,show ¬ (rows[i - 1].1 < rows[i].1) by omega]
     · rw [if_neg hp,inner]
       simp [show rows[i - 1].1 < rows[i].1 by omega]
 · rw [if_neg h1,decide_eq_false h1]; simp
theorem sRow_step (fields:FLs) (hf:SzF fields) (rows:List RwT) (hr:SzR rows) (ents:List Ent) (next:Int) (i:Nat) (hi:i < rows.length) :
  Za4.l2 i fields rows ents next = if rowB fields rows (subI .i64 next 1) i = true then Za4.l2 ((i + 1:Nat):Int) fields rows ents next else some false:=by
 have hrl:=hr.1
 have hx:rows[i]? = some rows[i]:=List.getElem?_eq_getElem hi
 have hm:=hr.2 _ (List.getElem_mem hi)
 have hrb:rowB fields rows (subI .i64 next 1) i = (docB fields rows[i].2 && (decide (ixF rows rows[i].2.1 0 = (i:Int)) && (decide (0 <= rows[i].1 /\ rows[i].1 <= subI .i64 next 1) && (decide (i = 0) || match rows[i - 1]? with
  | some p=>decide (p.1 < rows[i].1)
  | none=>false)))):=by unfold rowB; rw [hx]
 rw [Za4.l2_eq,Zah,Zbg,if_pos (by omega),Zcw,hx]
 simp only [Zac]
 rw [l1In_ok,show ((rows[i].2.1,rows[i].2.2):DocT) = rows[i].2 from rfl,sDoc_ok fields hf _ hm,Zac,Zck,sKey_ok _ _ hrl,Zac,Zck,Zci,Zac,Zck,Zew,Zah,Zc5 _ _ (by omega) (by omega),show (i:Int) + 1 = ((i + 1:Nat):Int) by omega,hrb]
 generalize Za4.l2 ((i + 1:Nat):Int) fields rows ents next = K
 cases docB fields rows[i].2 with
 | false=>rfl
 | true =>
   rw [Zeu]
   by_cases h2:ixF rows rows[i].2.1 0 = (i:Int)
   · rw [if_pos h2,decide_eq_true h2]
     by_cases h1:0 <= rows[i].1 /\ rows[i].1 <= subI .i64 next 1
     · rw [if_pos h1,decide_eq_true h1]
       by_cases h0:i = 0
       · rw [if_neg (by omega)]
         subst h0
         simp
       · rw [if_pos (by omega),Zkf (i:Int) 1 (by omega) (by omega),show (i:Int) - 1 = ((i - 1:Nat):Int) by omega,Zcw,List.getElem?_eq_getElem (show i - 1 < rows.length by omega)]
         simp only [Zac,Zdh]
         by_cases hp:rows[i].1 <= rows[i - 1].1
         · rw [if_pos hp]
           simp [h0,show ¬ (rows[i - 1].1 < rows[i].1) by omega]
         · rw [if_neg hp]
           simp [show rows[i - 1].1 < rows[i].1 by omega]
     · rw [if_neg h1,decide_eq_false h1]; simp
   · rw [if_neg h2,decide_eq_false h2]; simp
theorem iIndex_ok (x:IdxT) (hx:SzX x):Zbe x = some (ixOkB x):=by
 obtain ⟨fields,rows,ents,next⟩:=x
 obtain ⟨hf,hr,he⟩:=hx
 simp only at hf hr he
 have hrl:=hr.1
 have hstep:=fun i hi=>iRow_step fields hf rows hr ents next i hi
 rw [impl_IndexOk_eq,iFields_ok fields hf.1 hf.2,Zac,Zck,Zah,Zbg,Zgw,Zac,Zck]
 simp only
 unfold ixOkB
 simp only
 cases Zh3 fields with
 | false=>rfl
 | true =>
   rw [Zeu]
   by_cases h8:(rows.length:Int) <= 8
   · rw [if_neg (by omega),decide_eq_true h8,Zew]
     by_cases hn:0 <= next /\ next <= 999999999
     · rw [if_pos hn,decide_eq_true hn]
       simp only [Bool.true_and]
       by_cases hall:(List.range' 0 rows.length).all (rowB fields rows (subI .i64 next 1)) = true
       · have hN:=evR_small fields rows (rows_docs hall)
         have hfin:Zbe.l4 rows (rows.length:Int) (rows.length:Int) fields rows ents next = some (decide (ents = madeV fields rows)):=by
          rw [Zbe.l4_eq,Zah,if_neg (by omega),Zbe.j9_eq,entries_ok fields hf.1 rows (okR_of rows hr) (by omega),Zac,iEnts_ok _ _ he,Zac]
         exact Zf9 (l:=fun i=>Zbe.l4 rows (rows.length:Int) i fields rows ents next) (n:=rows.length) (p:=rowB fields rows (subI .i64 next 1)) (fin:=decide (ents = madeV fields rows)) hstep hfin rows.length 0 (by omega)
       · have hf':(List.range' 0 rows.length).all (rowB fields rows (subI .i64 next 1)) = false:=by simpa using hall
         rw [hf',Bool.false_and]
         exact loop_stop (l:=fun i=>Zbe.l4 rows (rows.length:Int) i fields rows ents next) hstep rows.length 0 (by omega) hf'
     · rw [if_neg hn,decide_eq_false hn]; rfl
   · rw [if_pos (by omega),decide_eq_false h8]; rfl
theorem sIndex_ok (x:IdxT) (hx:SzX x):Za4 x = some (ixOkB x):=by
 obtain ⟨fields,rows,ents,next⟩:=x
 obtain ⟨hf,hr,he⟩:=hx
 simp only at hf hr he
 have hrl:=hr.1
 have hstep:=fun i hi=>sRow_step fields hf rows hr ents next i hi
 rw [spec_IndexOk_eq]
 simp only
 unfold ixOkB
 simp only
 by_cases hall:(List.range' 0 rows.length).all (rowB fields rows (subI .i64 next 1)) = true
 · have hN:=evR_small fields rows (rows_docs hall)
   have hfin:Za4.l2 (rows.length:Int) fields rows ents next = some (Zh3 fields && (decide ((rows.length:Int) <= 8) && (decide (0 <= next /\ next <= 999999999) && decide (ents = madeV fields rows)))):=by
    rw [Za4.l2_eq,Zah,Zbg,if_neg (by omega),Za4.j7_eq,sFields_ok fields hf.1 hf.2,Zac,Zdh,Zbg,l1In_ok,Zac,Zew,made_ok fields hf.1 rows (okR_of rows hr) (by omega),Zac,sSame_ok _ _ (bd_sz (made_bd fields rows) (by omega)),Zac]
    have hsym:decide (madeV fields rows = ents) = decide (ents = madeV fields rows):=by rw [decide_eq_decide]; exact eq_comm
    rw [hsym]
    cases Zh3 fields with
    | false=>rfl
    | true =>
      rw [Zeu]
      by_cases h8:(rows.length:Int) <= 8
      · rw [if_pos h8,decide_eq_true h8]
        by_cases hn:0 <= next /\ next <= 999999999
        · rw [if_pos hn,decide_eq_true hn]; rfl
        · rw [if_neg hn,decide_eq_false hn]; rfl
      · rw [if_neg h8,decide_eq_false h8]; rfl
   have:=Zf9 (l:=fun i=>Za4.l2 i fields rows ents next) (n:=rows.length) (p:=rowB fields rows (subI .i64 next 1)) hstep hfin rows.length 0 (by omega)
   rw [hall,Bool.true_and] at this
   rw [hall,Bool.true_and]
   exact this
 · have hf':(List.range' 0 rows.length).all (rowB fields rows (subI .i64 next 1)) = false:=by simpa using hall
   have:=loop_stop (l:=fun i=>Za4.l2 i fields rows ents next) hstep rows.length 0 (by omega) hf'
   rw [hf']
   simp only [Bool.false_and,Bool.and_false]
   exact this
end Go.E
namespace Go.E
open Go
def Zff:List CT2 -> ByteArray -> Option ByteArray
 | [],_=>none
 | c :: r,n=>if c.1 = n then some c.2 else Zff r n
theorem textAt_nil (n:ByteArray):Zff [] n = none:=rfl
theorem textAt_cons (c:CT2) (r:List CT2) (n:ByteArray):Zff (c :: r) n = if c.1 = n then some c.2 else Zff r n:=rfl
theorem textAt_mem:∀ {l:List CT2} {n t:ByteArray},Zff l n = some t -> (n,t) ∈ l
 | [],n,t,h=>by cases h
 | c :: r,n,t,h=>by
   rw [textAt_cons] at h
   split at h
   · rename_i e; cases h; rw [← e]; exact List.mem_cons_self ..
   · exact List.mem_cons_of_mem _ (textAt_mem h)
theorem iText_ok (d:DocT) (n:ByteArray) (hl:d.2.length <= 1048576):Zbl (d,n) = some ((Zff d.2 n).getD (bs []),(Zff d.2 n).isSome):=by
 rw [show d = (d.1,d.2) from rfl,impl_DocText_eq,Zbg]
 suffices H:∀ (m i:Nat),i + m = d.2.length -> Zbl.l2 n d.2 (d.2.length:Int) i = some ((Zff (d.2.drop i) n).getD (bs []),(Zff (d.2.drop i) n).isSome) by
  have:=H d.2.length 0 (by omega)
  rwa [List.drop_zero] at this
 intro m
 induction m with
 | zero=>intro i e; rw [Zbl.l2_eq,Zah,if_neg (by omega),Zbl.j7_eq,List.drop_eq_nil_of_le (by omega)]; rfl
 | succ m ih =>
   intro i e
   obtain ⟨c,hc,hd⟩:=Zdr (l:=d.2) (i:=i) (by omega)
   rw [Zbl.l2_eq,Zah,if_pos (by omega),Zcw,hc,Zac,Zef,hd,textAt_cons,Zc5 _ _ (by omega) (by omega),show (i:Int) + 1 = ((i + 1:Nat):Int) by omega,ih (i + 1) (by omega)]
   split <;> rfl
theorem sText_ok (d:DocT) (n:ByteArray) (hl:d.2.length <= 1048576):Zbn (d,n) = some ((Zff d.2 n).getD (bs []),(Zff d.2 n).isSome):=by
 rw [show d = (d.1,d.2) from rfl,spec_DocText_eq]
 suffices H:∀ (m i:Nat),i + m = d.2.length -> Zbn.l2 n i d.1 d.2 = some ((Zff (d.2.drop i) n).getD (bs []),(Zff (d.2.drop i) n).isSome) by
  have:=H d.2.length 0 (by omega)
  rwa [List.drop_zero] at this
 intro m
 induction m with
 | zero=>intro i e; rw [Zbn.l2_eq,Zah,Zbg,if_neg (by omega),Zbn.j6_eq,List.drop_eq_nil_of_le (by omega)]; rfl
 | succ m ih =>
   intro i e
   obtain ⟨c,hc,hd⟩:=Zdr (l:=d.2) (i:=i) (by omega)
   rw [Zbn.l2_eq,Zah,Zbg,if_pos (by omega),Zcw,hc,Zac,Zef,Zac,hd,textAt_cons,Zc5 _ _ (by omega) (by omega),show (i:Int) + 1 = ((i + 1:Nat):Int) by omega,ih (i + 1) (by omega)]
   split <;> rfl
def hasN (l:List Int) (n:Int):Bool:=l.any (fun y=>decide (y = n))
theorem hasN_iff (l:List Int) (n:Int):hasN l n = true ↔ n ∈ l:=by
 unfold hasN; rw [List.any_eq_true]
 exact ⟨fun ⟨y,h1,h2⟩=>by simp at h2; exact h2 ▸ h1,fun h=>⟨n,h,by simp⟩⟩
theorem indexN_l2 (l:List Int) (v:Int) (hl:l.length <= 2000000):∀ (n i:Nat),i + n = l.length -> ∃ r,Zak.l2 l v (l.length:Int) i = some r /\ leI 0 r = (l.drop i).any (fun y=>decide (y = v))
 | 0,i,e=>⟨-1,by rw [Zak.l2_eq,Zah,if_neg (by omega),Zak.j7_eq],by rw [List.drop_eq_nil_of_le (by omega)]; rfl⟩
 | n + 1,i,e=>by
   obtain ⟨x,hx,hd⟩:=Zdr (l:=l) (i:=i) (by omega)
   rw [Zak.l2_eq,Zah,if_pos (by omega),Zcw,hx,Zac,Zci,hd,List.any_cons,Zc5 _ _ (by omega) (by omega),show (i:Int) + 1 = ((i + 1:Nat):Int) by omega]
   by_cases h:v = x
   · rw [if_pos h]
     exact ⟨_,rfl,by rw [show leI 0 (i:Int) = true from decide_eq_true (by omega)]; simp [h]⟩
   · rw [if_neg h]
     obtain ⟨r,h1,h2⟩:=indexN_l2 l v hl n (i + 1) (by omega)
     exact ⟨r,h1,by rw [h2]; simp [Ne.symm h]⟩
theorem containsN_ok (l:List Int) (v:Int) (hl:l.length <= 2000000):Zbf (l,v) = some (hasN l v):=by
 obtain ⟨r,h1,h2⟩:=indexN_l2 l v hl l.length 0 (by omega)
 rw [Zhu,Ziv,Zbg,show (0:Int) = ((0:Nat):Int) from rfl,h1,Zac]
 rw [List.drop_zero] at h2
 rw [show ((0:Nat):Int) = 0 from rfl,h2]; rfl
theorem l3Has_ok (l:List Int) (v:Int) (hl:l.length <= 2000000):Zb9 (l,v) = some (hasN l v):=by
 rw [spec_l3Has_eq]
 suffices H:∀ (n i:Nat),i + n = l.length -> Zb9.l2 l v i = some ((l.drop i).any (fun y=>decide (y = v))) by
  have:=H l.length 0 (by omega)
  rwa [List.drop_zero] at this
 intro n
 induction n with
 | zero=>intro i e; rw [Zb9.l2_eq,Zah,Zbg,if_neg (by omega),Zb9.j6_eq,List.drop_eq_nil_of_le (by omega)]; rfl
 | succ n ih =>
   intro i e
   obtain ⟨x,hx,hd⟩:=Zdr (l:=l) (i:=i) (by omega)
   rw [Zb9.l2_eq,Zah,Zbg,if_pos (by omega),Zcw,hx,Zac,Zci,hd,List.any_cons,Zc5 _ _ (by omega) (by omega),show (i:Int) + 1 = ((i + 1:Nat):Int) by omega,ih (i + 1) (by omega)]
   by_cases h:x = v
   · rw [if_pos h]; simp [h]
   · rw [if_neg h]; simp [h]
def numR (field:ByteArray) (r:RwT):Option Int:=(Zff r.2.2 field).map fun t=>(numV t).1
def Zg8 (field:ByteArray) (ids:List Int) (rows:List RwT):List Int:=rows.filterMap fun r=>if hasN ids r.1 = true then numR field r else none
theorem numsV_cons (field:ByteArray) (ids:List Int) (r:RwT) (t:List RwT):Zg8 field ids (r :: t) = (match (if hasN ids r.1 = true then numR field r else none) with
  | some n=>n :: Zg8 field ids t
  | none=>Zg8 field ids t):=by
 unfold Zg8; rw [List.filterMap_cons]
 generalize (if hasN ids r.1 = true then numR field r else none) = o
 cases o <;> rfl
theorem numV_bd (s:ByteArray):-999999999 <= (numV s).1 /\ (numV s).1 <= 999999999:=by
 unfold numV
 split
 · split
   · rename_i h; exact h
   · simp
 · simp
theorem numsV_bd (field:ByteArray) (ids:List Int) (rows:List RwT):∀ n ∈ Zg8 field ids rows,-999999999 <= n /\ n <= 999999999:=fun n hn=>by
 unfold Zg8 at hn
 obtain ⟨r,_,hr⟩:=List.mem_filterMap.1 hn
 split at hr
 · unfold numR at hr
   obtain ⟨t,_,rfl⟩:=Option.map_eq_some_iff.1 hr
   exact numV_bd t
 · cases hr
theorem numsV_len (field:ByteArray) (ids:List Int) (rows:List RwT):(Zg8 field ids rows).length <= rows.length:=List.length_filterMap_le _ _
theorem iNum_ok (fields:FLs) (hf:SzF fields) (d:DocT) (hd:SzD d) (name:ByteArray) (hk:Zeo fields name = some 2):Zd7 (fields,(d,name)) = some ((numV ((Zff d.2 name).getD (bs []))).1,(Zff d.2 name).isSome):=by
 obtain ⟨f,f1,f2⟩:=iField_ok fields name hf.1
 have hsz:((Zff d.2 name).getD (bs [])).size <= 1048576:=by
  cases h:Zff d.2 name with
  | none=>exact Nat.zero_le _
  | some t=>exact (hd.2.2 _ (textAt_mem h)).1
 rw [impl_num_eq,impl_cell_eq,f1,Zac,f2,hk,show eqI ((some (2:Int)).getD 0) 2 = true from rfl]
 simp only [notB,Bool.not_true,Ze7]
 rw [show ((d.1,d.2):DocT) = d from rfl,iText_ok d name hd.2.1,Zac,Zac,iNumber_ok _ hsz,Zac]
theorem sDocNum_ok (fields:FLs) (hf:SzF fields) (d:DocT) (hd:SzD d) (name:ByteArray) (hk:Zeo fields name = some 2) (hdoc:docB fields d = true):∃ n,Zdj (fields,(d,name)) = some (n,(Zff d.2 name).isSome) /\ ∀ t,Zff d.2 name = some t -> n = (numV t).1:=by
 rw [spec_DocNum_eq,show ((d.1,d.2):DocT) = d from rfl,sText_ok d name hd.2.1,Zac,sDoc_ok fields hf d hd,Zac,hdoc,sKind_ok fields name 2 hf.1,Zac,hk]
 simp only [notB,Bool.not_true,Ze7,decide_true]
 cases ht:Zff d.2 name with
 | none=>exact ⟨0,rfl,fun t h=>nomatch h⟩
 | some t =>
   have hm:=textAt_mem ht
   have hcell:cellB fields (name,t) = true:=by
    unfold docB at hdoc
    simp only [Bool.and_eq_true,List.all_eq_true] at hdoc
    exact hdoc.2.2 _ hm
   have hnum:(numV t).2 = true:=by
    unfold cellB at hcell
    rw [hk] at hcell
    simpa using hcell
   obtain ⟨n,n1,n2⟩:=sNumber_ok t (hd.2.2 _ hm).1
   simp only [Option.isSome_some,Bool.not_true,Ze7,Option.getD_some]
   rw [n1,Zac]
   exact ⟨n,rfl,fun t' h=>by cases h; exact n2 hnum⟩
abbrev StT:=Int × (Int × (Int × Int))
def stF (s:StT) (n:Int):StT:=(addI .i64 s.1 1,(addI .i64 s.2.1 n,((if s.1 = 0 ∨ n < s.2.2.1 then n else s.2.2.1),(if s.1 = 0 ∨ s.2.2.2 < n then n else s.2.2.2))))
def Zki (l:List Int):StT:=l.foldl stF (0,(0,(0,0)))
def statX (x:IdxT) (ids:List Int) (field:ByteArray):StT:=if ixOkB x = true /\ Zeo x.1 field = some 2 then Zki (Zg8 field ids x.2.1) else (0,(0,(0,0)))
theorem statV_fold:∀ (r:List Int) (k s a b:Int),0 < k -> k + r.length <= 1000000000 -> r.foldl stF (k,(s,(a,b))) = (k + r.length,(r.foldl (addI .i64) s,(r.foldl minI a,r.foldl maxI b)))
 | [],k,s,a,b,hk,hl=>by simp
 | n :: r,k,s,a,b,hk,hl=>by
   have hl':k + ((r.length:Int) + 1) <= 1000000000:=by simpa using hl
   have e1:stF (k,(s,(a,b))) n = (k + 1,(addI .i64 s n,(minI a n,maxI b n))):=by
    unfold stF
    simp only
    rw [Zc5 k 1 (by omega) (by omega)]
    have m1:(if k = 0 ∨ n < a then n else a) = minI a n:=by
     unfold minI
     by_cases h:n < a
     · rw [if_pos (.inr h)]; omega
     · rw [if_neg (by omega)]; omega
    have m2:(if k = 0 ∨ b < n then n else b) = maxI b n:=by
     unfold maxI
     by_cases h:b < n
     · rw [if_pos (.inr h)]; omega
     · rw [if_neg (by omega)]; omega
    rw [m1,m2]
   rw [List.foldl_cons,e1,statV_fold r (k + 1) _ _ _ (by omega) (by omega)]
   simp only [List.length_cons,List.foldl_cons]
   refine Prod.ext ?_ rfl
   simp; omega
end Go.E
namespace Go.E
open Go
def pickD (ids:List Int) (rows:List RwT):List DocT:=rows.filterMap fun r=>if hasN ids r.1 = true then some r.2 else none
theorem pickD_cons (ids:List Int) (r:RwT) (t:List RwT):pickD ids (r :: t) = if hasN ids r.1 = true then r.2 :: pickD ids t else pickD ids t:=by
 unfold pickD; rw [List.filterMap_cons]
 by_cases h:hasN ids r.1 = true
 · rw [if_pos h,if_pos h]
 · rw [if_neg h,if_neg h]
theorem pickD_len (ids:List Int) (rows:List RwT):(pickD ids rows).length <= rows.length:=List.length_filterMap_le _ _
theorem docs_l5 (ids:List Int) (hi:ids.length <= 2000000) (rows:List RwT) (hr:rows.length <= 1048576):∀ (n i:Nat) (out:List DocT),i + n = rows.length -> out.length <= i -> Zcf.l5 ids rows (rows.length:Int) i out = some (out ++ pickD ids (rows.drop i))
 | 0,i,out,e,ho=>by
   rw [Zcf.l5_eq,Zah,if_neg (by omega),Zcf.j10_eq,List.drop_eq_nil_of_le (by omega)]
   simp [pickD]
 | n + 1,i,out,e,ho=>by
   obtain ⟨r,hx,hd⟩:=Zdr (l:=rows) (i:=i) (by omega)
   rw [Zcf.l5_eq,Zah,if_pos (by omega),Zcw,hx,Zac,containsN_ok ids r.1 hi,Zac,hd,pickD_cons]
   cases h:hasN ids r.1 with
   | true =>
     rw [Zeu,Zdb,if_pos (by rw [Zcr]; simp; omega),Zcf.j9_eq,Zc5 _ _ (by omega) (by omega),show (i:Int) + 1 = ((i + 1:Nat):Int) by omega,docs_l5 ids hi rows hr n (i + 1) _ (by omega) (by unfold appL; simp; omega)]
     simp [appL]
   | false =>
     rw [Ze7,Zcf.j9_eq,Zc5 _ _ (by omega) (by omega),show (i:Int) + 1 = ((i + 1:Nat):Int) by omega,docs_l5 ids hi rows hr n (i + 1) _ (by omega) (by omega)]
     simp
theorem iDocs_ok (x:IdxT) (hx:SzX x) (ids:List Int) (hi:ids.length <= 2000000) (field:ByteArray) (k:Int) (hk:k ≠ 0):Zcf (x,(ids,(field,k))) = some (if ixOkB x = true /\ Zeo x.1 field = some k then pickD ids x.2.1 else []):=by
 obtain ⟨f,f1,f2⟩:=iField_ok x.1 field hx.1.1
 have h5:=docs_l5 ids hi x.2.1 hx.2.1.1 x.2.1.length 0 [] (by omega) (Nat.le_refl _)
 rw [List.drop_zero,List.nil_append] at h5
 rw [impl_docs_eq,show ((x.1,(x.2.1,(x.2.2.1,x.2.2.2))):IdxT) = x from rfl,iIndex_ok x hx,Zac,Zck,f1,Zac,Zck,f2,kind_dec _ k hk,Zew,Zbg,show (0:Int) = ((0:Nat):Int) from rfl,h5]
 cases ixOkB x with
 | false=>rw [Ze7,if_neg (by simp)]
 | true =>
   rw [Zeu]
   by_cases h:Zeo x.1 field = some k
   · rw [if_pos h,if_pos ⟨rfl,h⟩]
   · rw [if_neg h,if_neg (fun e=>h e.2)]
def numD (field:ByteArray) (d:DocT):Option Int:=(Zff d.2 field).map fun t=>(numV t).1
theorem nums_l3 (x:IdxT) (hx:SzX x) (field:ByteArray) (hk:Zeo x.1 field = some 2) (ds:List DocT) (hd:ds.length <= 1048576) (hs:∀ d ∈ ds,SzD d):∀ (n i:Nat) (out:List Int),i + n = ds.length -> out.length <= i ->
  Zb7.l3 field (ds.length:Int) i ds out x.1 x.2.1 x.2.2.1 x.2.2.2 = some (out ++ (ds.drop i).filterMap (numD field))
 | 0,i,out,e,ho=>by
   rw [Zb7.l3_eq,Zah,if_neg (by omega),Zb7.j9_eq,List.drop_eq_nil_of_le (by omega)]
   simp
 | n + 1,i,out,e,ho=>by
   obtain ⟨d,hdi,hdr⟩:=Zdr (l:=ds) (i:=i) (by omega)
   have hnum:=iNum_ok x.1 hx.1 d (hs d (List.mem_of_getElem? hdi)) field hk
   rw [Zb7.l3_eq,Zah,if_pos (by omega),Zdh,if_pos (by omega),Zah,Zbg,if_pos (by omega),Zcw,hdi,Zac,show ((d.1,d.2):DocT) = d from rfl,hnum,Zac,hdr,List.filterMap_cons]
   have he:numD field d = (Zff d.2 field).map fun t=>(numV t).1:=rfl
   rw [he]
   cases ht:Zff d.2 field with
   | some t =>
     simp only [Option.isSome_some,Zeu,Option.getD_some,Option.map_some]
     rw [Zdb,if_pos (by rw [Zcr]; simp; omega),Zb7.j8_eq,Zc5 _ _ (by omega) (by omega),show (i:Int) + 1 = ((i + 1:Nat):Int) by omega,nums_l3 x hx field hk ds hd hs n (i + 1) _ (by omega) (by unfold appL; simp; omega)]
     simp [appL]
   | none =>
     simp only [Option.isSome_none,Ze7,Option.map_none]
     rw [Zb7.j8_eq,Zc5 _ _ (by omega) (by omega),show (i:Int) + 1 = ((i + 1:Nat):Int) by omega,nums_l3 x hx field hk ds hd hs n (i + 1) _ (by omega) (by omega)]
theorem nums_pick (field:ByteArray) (ids:List Int):∀ rows:List RwT,(pickD ids rows).filterMap (numD field) = Zg8 field ids rows
 | []=>rfl
 | r :: t=>by
   rw [pickD_cons,numsV_cons]
   by_cases h:hasN ids r.1 = true
   · rw [if_pos h,if_pos h,List.filterMap_cons,nums_pick field ids t]
     have e:numD field r.2 = numR field r:=rfl
     rw [e]
     cases numR field r <;> rfl
   · rw [if_neg h,if_neg h,nums_pick field ids t]
theorem iNums_ok (x:IdxT) (hx:SzX x) (ids:List Int) (hi:ids.length <= 2000000) (field:ByteArray):Zb7 (x,(ids,field)) = some (if ixOkB x = true /\ Zeo x.1 field = some 2 then Zg8 field ids x.2.1 else []):=by
 rw [impl_nums_eq,show ((x.1,(x.2.1,(x.2.2.1,x.2.2.2))):IdxT) = x from rfl,iDocs_ok x hx ids hi field 2 (by omega),Zac,Zbg]
 by_cases h:ixOkB x = true /\ Zeo x.1 field = some 2
 · rw [if_pos h,if_pos h]
   have hp:=pickD_len ids x.2.1
   have hrl:=hx.2.1.1
   have:=nums_l3 x hx field h.2 (pickD ids x.2.1) (by omega) (fun d hd=>by
    unfold pickD at hd
    obtain ⟨r,hr,hrd⟩:=List.mem_filterMap.1 hd
    split at hrd
    · cases hrd; exact hx.2.1.2 r hr
    · cases hrd) (pickD ids x.2.1).length 0 [] (by omega) (Nat.le_refl _)
   rw [List.drop_zero,List.nil_append,nums_pick] at this
   exact this
 · rw [if_neg h,if_neg h]
   rw [Zb7.l3_eq,Zah,if_neg (by simp),Zb7.j9_eq]
theorem min_l5 (l:List Int) (hl:l.length <= 1048576):∀ (n i:Nat) (a:Int),i + n = l.length -> Zam.l5 l a i = some ((l.drop i).foldl minI a)
 | 0,i,a,e=>by rw [Zam.l5_eq,Zah,Zbg,if_neg (by omega),Zam.j8_eq,List.drop_eq_nil_of_le (by omega)]; rfl
 | n + 1,i,a,e=>by
   obtain ⟨x,hx,hd⟩:=Zdr (l:=l) (i:=i) (by omega)
   rw [Zam.l5_eq,Zah,Zbg,if_pos (by omega),Zcw,hx,Zac,Zc5 _ _ (by omega) (by omega),show (i:Int) + 1 = ((i + 1:Nat):Int) by omega,min_l5 l hl n (i + 1) _ (by omega),hd,List.foldl_cons]
theorem max_l5 (l:List Int) (hl:l.length <= 1048576):∀ (n i:Nat) (a:Int),i + n = l.length -> Zal.l5 l a i = some ((l.drop i).foldl maxI a)
 | 0,i,a,e=>by rw [Zal.l5_eq,Zah,Zbg,if_neg (by omega),Zal.j8_eq,List.drop_eq_nil_of_le (by omega)]; rfl
 | n + 1,i,a,e=>by
   obtain ⟨x,hx,hd⟩:=Zdr (l:=l) (i:=i) (by omega)
   rw [Zal.l5_eq,Zah,Zbg,if_pos (by omega),Zcw,hx,Zac,Zc5 _ _ (by omega) (by omega),show (i:Int) + 1 = ((i + 1:Nat):Int) by omega,max_l5 l hl n (i + 1) _ (by omega),hd,List.foldl_cons]
theorem iMin_ok (x:Int) (r:List Int) (hl:r.length <= 1048575):Zam (x :: r) = some (r.foldl minI x):=by
 have:=min_l5 (x :: r) (by simp; omega) r.length 1 x (by simp; omega)
 rw [slices_Min_int_int_eq,Zah,Zbg,if_neg (by simp; omega),Zam.j3_eq,show atL (x :: r) 0 = some x from rfl,Zac,show (1:Int) = ((1:Nat):Int) from rfl,this]
 rfl
theorem iMax_ok (x:Int) (r:List Int) (hl:r.length <= 1048575):Zal (x :: r) = some (r.foldl maxI x):=by
 have:=max_l5 (x :: r) (by simp; omega) r.length 1 x (by simp; omega)
 rw [slices_Max_int_int_eq,Zah,Zbg,if_neg (by simp; omega),Zal.j3_eq,show atL (x :: r) 0 = some x from rfl,Zac,show (1:Int) = ((1:Nat):Int) from rfl,this]
 rfl
theorem stat_l6 (l:List Int) (hl:l.length <= 1048576) (m a b z1 z2 z3 z4:Int):∀ (n i:Nat) (s:Int),i + n = l.length -> Zbu.l6 (l.length:Int) i l m s a b z1 z2 z3 z4 = some (m,((l.drop i).foldl (addI .i64) s,(a,b)))
 | 0,i,s,e=>by rw [Zbu.l6_eq,Zah,if_neg (by omega),Zbu.j10_eq,List.drop_eq_nil_of_le (by omega)]; rfl
 | n + 1,i,s,e=>by
   obtain ⟨x,hx,hd⟩:=Zdr (l:=l) (i:=i) (by omega)
   rw [Zbu.l6_eq,Zah,if_pos (by omega),Zdh,if_pos (by omega),Zah,Zbg,if_pos (by omega),Zcw,hx,Zac,Zc5 (i:Int) 1 (by omega) (by omega),show (i:Int) + 1 = ((i + 1:Nat):Int) by omega,stat_l6 l hl m a b z1 z2 z3 z4 n (i + 1) _ (by omega),hd,List.foldl_cons]
theorem statV_cons (x:Int) (r:List Int) (hl:r.length <= 1048575) (hx:-999999999 <= x /\ x <= 999999999):Zki (x :: r) = (((x :: r).length:Int),((x :: r).foldl (addI .i64) 0,(r.foldl minI x,r.foldl maxI x))):=by
 unfold Zki
 have e1:stF (0,(0,(0,0))) x = (1,(x,(x,x))):=by
  unfold stF
  simp only [true_or,if_true]
  rw [Zc5 0 1 (by omega) (by omega),Zc5 0 x (by omega) (by omega),Int.zero_add,Int.zero_add]
 rw [List.foldl_cons,e1,statV_fold r 1 x x x (by omega) (by omega),List.foldl_cons,Zc5 0 x (by omega) (by omega),Int.zero_add]
 refine Prod.ext ?_ rfl
 simp; omega
theorem iStat_ok (x:IdxT) (hx:SzX x) (ids:List Int) (hi:ids.length <= 2000000) (field:ByteArray) (h8:ixOkB x = true -> x.2.1.length <= 8):Zbu (x,(ids,field)) = some (statX x ids field):=by
 rw [impl_StatOf_eq,show ((x.1,(x.2.1,(x.2.2.1,x.2.2.2))):IdxT) = x from rfl,iNums_ok x hx ids hi field,Zac,Zci,Zbg]
 unfold statX
 by_cases h:ixOkB x = true /\ Zeo x.1 field = some 2
 · rw [if_pos h,if_pos h]
   have hlen:=numsV_len field ids x.2.1
   have h8':=h8 h.1
   have hbd:=numsV_bd field ids x.2.1
   cases hn:Zg8 field ids x.2.1 with
   | nil=>rw [if_pos (by simp)]; rfl
   | cons y r =>
     rw [hn] at hlen hbd
     have hrl:r.length <= 7:=by simp at hlen; omega
     have h6:=stat_l6 (y :: r) (by simp; omega) ((y :: r).length:Int) (r.foldl minI y) (r.foldl maxI y) 0 0 0 0 (y :: r).length 0 0 (by omega)
     rw [List.drop_zero] at h6
     rw [if_neg (by simp; omega),iMin_ok y r (by omega),Zac,iMax_ok y r (by omega),Zac,statV_cons y r (by omega) (hbd y (List.mem_cons_self ..))]
     exact h6
 · rw [if_neg h,if_neg h,if_pos (by simp)]
theorem stat_l5 (x:IdxT) (hx:SzX x) (ids:List Int) (hi:ids.length <= 2000000) (field:ByteArray) (hk:Zeo x.1 field = some 2) (hdoc:∀ r ∈ x.2.1,docB x.1 r.2 = true):∀ (n i:Nat) (s:StT),i + n = x.2.1.length ->
  Zaw.l5 ids field i s.1 s.2.1 s.2.2.1 s.2.2.2 0 0 0 0 x.1 x.2.1 x.2.2.1 x.2.2.2 = some ((Zg8 field ids (x.2.1.drop i)).foldl stF s)
 | 0,i,s,e=>by
   rw [Zaw.l5_eq,Zah,Zbg,if_neg (by omega),Zaw.j15_eq,List.drop_eq_nil_of_le (by omega)]
   rfl
 | n + 1,i,s,e=>by
   obtain ⟨r,hr,hd⟩:=Zdr (l:=x.2.1) (i:=i) (by omega)
   have hrm:=List.mem_of_getElem? hr
   have hrl:=hx.2.1.1
   obtain ⟨m,m1,m2⟩:=sDocNum_ok x.1 hx.1 r.2 (hx.2.1.2 r hrm) field hk (hdoc r hrm)
   have hnext:∀ s':StT,Zaw.j6 ids field i s'.1 s'.2.1 s'.2.2.1 s'.2.2.2 0 0 0 0 x.1 x.2.1 x.2.2.1 x.2.2.2 = some ((Zg8 field ids (x.2.1.drop (i + 1))).foldl stF s'):=fun s'=>by
    rw [Zaw.j6_eq,Zc5 _ _ (by omega) (by omega),show (i:Int) + 1 = ((i + 1:Nat):Int) by omega]
    exact stat_l5 x hx ids hi field hk hdoc n (i + 1) s' (by omega)
   rw [Zaw.l5_eq,Zah,Zbg,if_pos (by omega),Zcw,hr]
   simp only [Zac]
   rw [m1,Zac,Zck,l3Has_ok ids r.1 hi,Zac,Zck,hd,numsV_cons]
   have hnr:numR field r = (Zff r.2.2 field).map fun t=>(numV t).1:=rfl
   rw [hnr]
   cases ht:Zff r.2.2 field with
   | none =>
     simp only [Option.isSome_none,Ze7,Option.map_none,ite_self]
     exact hnext s
   | some t =>
     have hm:=m2 t ht
     simp only [Option.isSome_some,Zeu,Option.map_some]
     cases hh:hasN ids r.1 with
     | false =>
       rw [Ze7]
       simp only [Bool.false_eq_true,if_false]
       exact hnext s
     | true =>
       rw [Zeu]
       simp only [if_true]
       rw [List.foldl_cons,← hm]
       have e13:∀ a b:Int,Zaw.j13 ids field i m s.1 s.2.1 a b 0 0 0 0 x.1 x.2.1 x.2.2.1 x.2.2.2 = some ((Zg8 field ids (x.2.1.drop (i + 1))).foldl stF (addI .i64 s.1 1,(addI .i64 s.2.1 m,(a,b)))):=fun a b=>by
        rw [Zaw.j13_eq]
        exact hnext (addI .i64 s.1 1,(addI .i64 s.2.1 m,(a,b)))
       have e11:∀ a:Int,Zaw.j11 ids field i m s.1 s.2.1 a s.2.2.2 0 0 0 0 x.1 x.2.1 x.2.2.1 x.2.2.2 = some ((Zg8 field ids (x.2.1.drop (i + 1))).foldl stF (addI .i64 s.1 1,(addI .i64 s.2.1 m,(a,if s.1 = 0 ∨ s.2.2.2 < m then m else s.2.2.2)))):=fun a=>by
        rw [Zaw.j11_eq,Zci,Zah,e13,e13]
        by_cases h0:s.1 = 0
        · rw [if_pos h0,if_pos (.inl h0)]
        · rw [if_neg h0]
          by_cases h1:s.2.2.2 < m
          · rw [if_pos h1,if_pos (.inr h1)]
          · rw [if_neg h1,if_neg (fun h=>h.elim h0 h1)]
       rw [Zci,Zah,e11,e11]
       have hst:stF s m = (addI .i64 s.1 1,(addI .i64 s.2.1 m,((if s.1 = 0 ∨ m < s.2.2.1 then m else s.2.2.1),(if s.1 = 0 ∨ s.2.2.2 < m then m else s.2.2.2)))):=rfl
       rw [hst]
       by_cases h0:s.1 = 0
       · rw [if_pos h0,if_pos (.inl h0:s.1 = 0 ∨ m < s.2.2.1)]
       · rw [if_neg h0]
         by_cases h1:m < s.2.2.1
         · rw [if_pos h1,if_pos (.inr h1:s.1 = 0 ∨ m < s.2.2.1)]
         · rw [if_neg h1,if_neg (fun h=>h.elim h0 h1:¬ (s.1 = 0 ∨ m < s.2.2.1))]
theorem ix_facts {x:IdxT} (h:ixOkB x = true):x.2.1.length <= 8 /\ ∀ r ∈ x.2.1,docB x.1 r.2 = true:=by
 unfold ixOkB at h
 simp only [Bool.and_eq_true,decide_eq_true_eq] at h
 obtain ⟨_,h2,_,h4,_⟩:=h
 exact ⟨by omega,rows_docs h4⟩
theorem sStat_ok (x:IdxT) (hx:SzX x) (ids:List Int) (hi:ids.length <= 2000000) (field:ByteArray):Zaw (x,(ids,field)) = some (statX x ids field):=by
 rw [spec_StatOf_eq,show ((x.1,(x.2.1,(x.2.2.1,x.2.2.2))):IdxT) = x from rfl,sIndex_ok x hx,Zac,Zck,sKind_ok x.1 field 2 hx.1.1,Zac,Zck,Zew]
 unfold statX
 cases h1:ixOkB x with
 | false=>rw [Ze7,if_neg (by simp)]
 | true =>
   rw [Zeu]
   by_cases h:Zeo x.1 field = some 2
   · rw [if_pos h,if_pos ⟨rfl,h⟩]
     have:=stat_l5 x hx ids hi field h (ix_facts h1).2 x.2.1.length 0 (0,(0,(0,0))) (by omega)
     rw [List.drop_zero] at this
     exact this
   · rw [if_neg h,if_neg (fun e=>h e.2)]
theorem iStat_ok' (x:IdxT) (hx:SzX x) (ids:List Int) (hi:ids.length <= 2000000) (field:ByteArray):Zbu (x,(ids,field)) = some (statX x ids field):=iStat_ok x hx ids hi field (fun h=>(ix_facts h).1)
end Go.E
namespace Go.E
open Go
theorem sFields_draw:Zc1 () = some [(bs [116,105,116,108,101],(1,3)),(bs [98,111,100,121],(1,1)),(bs [112,114,105,99,101],(2,0)),(bs [99,111,108,111,114],(3,0))]:=by
 rw [spec_l10Fields_eq]
def FewF (l:FLs):Prop:=1 <= l.length /\ l.length <= 10 /\ ∀ f ∈ l,f.1.size <= 100
theorem fields_draw {c:List Int} (hc:Zic c) {p:Int} (hp:0 <= p) (hp':p <= 100000):∃ l,Zco (c,p) = some (l,(c,p + 1)) /\ FewF l:=by
 obtain ⟨v,v1,v2,v3⟩:=Ze6 hc hp (by omega:p <= 1000000) (by omega:(1:Int) <= 4) (by omega)
 rw [spec_l11Fields_eq,sFields_draw,Zac,v1,Zac]
 simp only
 rw [Zci,Zci]
 have h4:FewF [(bs [116,105,116,108,101],(1,3)),(bs [98,111,100,121],(1,1)),(bs [112,114,105,99,101],(2,0)),(bs [99,111,108,111,114],(3,0))]:=by
  refine ⟨by simp,by simp,fun f hf=>?_⟩
  simp only [List.mem_cons,List.not_mem_nil,or_false] at hf
  rcases hf with rfl | rfl | rfl | rfl <;> decide
 by_cases h0:v = 0
 · rw [if_pos h0,Zd5,if_pos (by rw [Zbg]; simp)]
   exact ⟨_,rfl,by simp [cutL],by simp [cutL],fun f hf=>h4.2.2 f (by unfold cutL at hf; exact List.mem_of_mem_take (List.mem_of_mem_drop hf))⟩
 · rw [if_neg h0]
   by_cases h1:v = 1
   · rw [if_pos h1,Zd5,if_pos (by rw [Zbg]; simp)]
     exact ⟨_,rfl,by simp [cutL,lenL],by simp [cutL,lenL],fun f hf=>h4.2.2 f (by unfold cutL at hf; exact List.mem_of_mem_take (List.mem_of_mem_drop hf))⟩
   · rw [if_neg h1]
     exact ⟨_,rfl,h4⟩
theorem one_draw {c:List Int} (hc:Zic c) {p:Int} (hp:0 <= p) (hp':p <= 1000000) (l:List Int) (h1:1 <= l.length) (h2:l.length <= 1000):∃ v ∈ l,Zcp ((c,p),l) = some (v,(c,p + 1)):=by
 obtain ⟨v,v1,v2,v3⟩:=Ze6 hc hp hp' (n:=(l.length:Int)) (by omega) (by omega)
 obtain ⟨h,e⟩:=atL_get l v v2 (by omega)
 rw [spec_l1Rd_one_eq,Zbg,v1,Zac]
 simp only
 rw [e,Zac]
 exact ⟨_,List.getElem_mem h,rfl⟩
def FewC (n:Nat) (l:List CT2):Prop:=l.length <= n /\ ∀ c ∈ l,c.1.size <= 100 /\ c.2.size <= 3000
theorem l2Field_at (l:FLs) (hl:l.length <= 1048576) (v:ByteArray):∃ k,Zax (l,v) = some k /\ (k < 0 ∨ ∃ (j:Nat) (f:FT),k = (j:Int) /\ l[j]? = some f):=by
 rw [Zf6]
 rcases Zhw l v hl l.length 0 (by omega) with ⟨h1,_⟩ | ⟨j,f,h1,h2,_⟩
 · exact ⟨-1,h1,.inl (by omega)⟩
 · exact ⟨j,h1,.inr ⟨j,f,rfl,h2⟩⟩
abbrev Zh9:List ByteArray:=[bs [98,111,100,121],bs [99,111,108,111,114],bs [112,114,105,99,101],bs [116,105,116,108,101]]
theorem names_small:∀ s ∈ Zh9,s.size <= 100:=fun s hs=>by
 simp only [List.mem_cons,List.not_mem_nil,or_false] at hs
 rcases hs with rfl | rfl | rfl | rfl <;> decide
theorem nums_small:∀ s ∈ [bs [48],bs [53],bs [55],bs [45,51],bs [49,50],bs [57,57,57,57,57,57,57,57,57]],ByteArray.size s <= 100:=fun s hs=>by
 simp only [List.mem_cons,List.not_mem_nil,or_false] at hs
 rcases hs with rfl | rfl | rfl | rfl | rfl | rfl <;> decide
theorem tags_small:∀ s ∈ [bs [114,101,100],bs [98,108,117,101],bs [114,101,100,44,98,108,117,101],bs [98,108,117,101,44,114,101,100,44,114,101,100],bs [103,114,101,101,110]],ByteArray.size s <= 100:=fun s hs=>by
 simp only [List.mem_cons,List.not_mem_nil,or_false] at hs
 rcases hs with rfl | rfl | rfl | rfl | rfl <;> decide
end Go.E
namespace Go.E
open Go
theorem value_draw {R:Type} {c:List Int} (hc:Zic c) {p:Int} (hp:0 <= p) (hp':p <= 2000) (fields:FLs) (j:Nat) (f:FT) (hf:fields[j]? = some f) (K:ByteArray -> List Int -> Int -> Option R) :
  ∃ t p',(bindO (Zba (c,p)) (fun y=>bindO (atL fields (j:Int)) (fun g=>iteB (eqI g.2.1 2) (bindO (Zbm ((y.2.1,y.2.2),[bs [48],bs [53],bs [55],bs [45,51],bs [49,50],bs [57,57,57,57,57,57,57,57,57]])) (fun z=>K z.1 z.2.1 z.2.2))
    (iteB (eqI g.2.1 3) (bindO (Zbm ((y.2.1,y.2.2),[bs [114,101,100],bs [98,108,117,101],bs [114,101,100,44,98,108,117,101],bs [98,108,117,101,44,114,101,100,44,114,101,100],bs [103,114,101,101,110]])) (fun z=>K z.1 z.2.1 z.2.2)) (K y.1 y.2.1 y.2.2))))) = K t c p' /\ t.size <= 3000 /\ 0 <= p' /\ p' <= p + 21:=by
 obtain ⟨s,p1,e1,h1,h2,h3⟩:=text_draw hc hp hp'
 obtain ⟨n,n1,n2⟩:=Zfr hc h2 (by omega:p1 <= 1000000) [bs [48],bs [53],bs [55],bs [45,51],bs [49,50],bs [57,57,57,57,57,57,57,57,57]] (by simp) (by simp)
 obtain ⟨g,g1,g2⟩:=Zfr hc h2 (by omega:p1 <= 1000000) [bs [114,101,100],bs [98,108,117,101],bs [114,101,100,44,98,108,117,101],bs [98,108,117,101,44,114,101,100,44,114,101,100],bs [103,114,101,101,110]] (by simp) (by simp)
 rw [e1,Zac,Zcw,hf,Zac]
 simp only
 rw [n2,g2,Zac,Zac,Zci,Zci]
 by_cases h:f.2.1 = 2
 · rw [if_pos h]
   exact ⟨n,p1 + 1,rfl,by have:=nums_small n n1; omega,by omega,by omega⟩
 · rw [if_neg h]
   by_cases k:f.2.1 = 3
   · rw [if_pos k]
     exact ⟨g,p1 + 1,rfl,by have:=tags_small g g1; omega,by omega,by omega⟩
   · rw [if_neg k]
     exact ⟨s,p1,rfl,by omega,h2,by omega⟩
theorem doc_l41 {c:List Int} (hc:Zic c) (fields:FLs) (hf:FewF fields) (key z:ByteArray):∀ (n i:Nat) (cells:List CT2) (p:Int),i + n = 4 -> FewC i cells -> 0 <= p -> p + 22 * (n:Int) <= 2000 ->
  ∃ out p',Zaf.l4_1 fields i Zh9 key cells z c p = some ((key,out),(c,p')) /\ FewC 4 out /\ 0 <= p' /\ p' <= p + 22 * n
 | 0,i,cells,p,e,hcl,hp,hp'=>by
   refine ⟨cells,p,?_,?_,hp,by omega⟩
   · rw [Zaf.l4_1_eq,Zah,Zbg,if_neg (by simp; omega),Zaf.j15_1_eq]
   · rw [show (4:Nat) = i by omega]; exact hcl
 | n + 1,i,cells,p,e,hcl,hp,hp'=>by
   have hx:Zh9[i]? = some (Zh9[i]'(by simp; omega)):=List.getElem?_eq_getElem _
   have hsm:=names_small _ (List.getElem_mem (show i < Zh9.length by simp; omega))
   generalize (Zh9[i]'(by simp; omega)) = nm at hx hsm
   obtain ⟨k,k1,k2⟩:=l2Field_at fields (by have:=hf.2.1; omega) nm
   have hfew:FewC (i + 1) cells:=⟨by have:=hcl.1; omega,hcl.2⟩
   have next:∀ (cs:List CT2) (q:Int),FewC (i + 1) cs -> 0 <= q -> q <= p + 22 -> ∃ out p',Zaf.j5_1 fields i Zh9 key cs z c q = some ((key,out),(c,p')) /\ FewC 4 out /\ 0 <= p' /\ p' <= p + 22 * ((n + 1:Nat):Int):=fun cs q h1 h2 h3=>by
    obtain ⟨out,p',e1,e2,e3,e4⟩:=doc_l41 hc fields hf key z n (i + 1) cs q (by omega) h1 h2 (by omega)
    refine ⟨out,p',?_,e2,e3,by omega⟩
    rw [Zaf.j5_1_eq,Zc5 _ _ (by omega) (by omega),show (i:Int) + 1 = ((i + 1:Nat):Int) by omega]
    exact e1
   have hlen:(Zh9.length:Int) = 4:=rfl
   rw [Zaf.l4_1_eq,Zah,Zbg,if_pos (by rw [hlen]; omega),Zdh,if_pos (by omega),Zah,if_pos (by rw [hlen]; omega),Zcw,hx,Zac,k1,Zac,Zah]
   rcases k2 with k2 | ⟨j,f,rfl,k2⟩
   · rw [if_pos k2]
     exact next cells p hfew hp (by omega)
   · obtain ⟨v,v1,v2,v3⟩:=Ze6 hc hp (by omega:p <= 1000000) (by omega:(1:Int) <= 4) (by omega)
     rw [if_neg (by omega),v1,Zac]
     simp only
     rw [Zci]
     by_cases hv:v = 0
     · rw [if_pos hv]
       exact next cells (p + 1) hfew (by omega) (by omega)
     · rw [if_neg hv]
       obtain ⟨t,p',t1,t2,t3,t4⟩:=value_draw hc (show 0 <= p + 1 by omega) (by omega) fields j f k2 (fun t c' q=>Zaf.j14_1 fields i nm t Zh9 key cells z c' q)
       rw [Zaf.j100008_1_eq,Zdh,if_pos (by omega),Zah,Zbg,if_pos (by rw [hlen]; omega),Zcw,hx,Zac]
       have hroom:cells.length + 1 <= Zfa:=by rw [Zcr]; have:=hcl.1; omega
       have hgoal:=next (appL cells ((nm,t) :: [])) p' ⟨by unfold appL; simp; exact hcl.1,fun x hx=>by
        unfold appL at hx
        rcases List.mem_append.1 hx with h | h
        · exact hcl.2 x h
        · rw [List.mem_singleton.1 h]; exact ⟨hsm,t2⟩⟩ t3 (by omega)
       have hj14:Zaf.j14_1 fields i nm t Zh9 key cells z c p' = Zaf.j5_1 fields i Zh9 key (appL cells ((nm,t) :: [])) z c p':=by
        rw [Zaf.j14_1_eq,Zdb,if_pos (by simpa using hroom)]
       rw [← hj14] at hgoal
       obtain ⟨out,q,g1,g2⟩:=hgoal
       exact ⟨out,q,t1.trans g1,g2⟩
theorem doc_l4 {c:List Int} (hc:Zic c) (fields:FLs) (hf:FewF fields) (key z:ByteArray):∀ (n i:Nat) (p:Int),i + n = 4 -> 0 <= p -> p + 22 * (n:Int) <= 2000 ->
  ∃ out p',Zaf.l4 fields i Zh9 key z c p = some ((key,out),(c,p')) /\ FewC 4 out /\ 0 <= p' /\ p' <= p + 22 * n
 | 0,i,p,e,hp,hp'=>by
   refine ⟨[],p,?_,⟨by simp,fun x h=>nomatch h⟩,hp,by omega⟩
   rw [Zaf.l4_eq,Zah,Zbg,if_neg (by simp; omega),Zaf.j15_eq]
 | n + 1,i,p,e,hp,hp'=>by
   have hx:Zh9[i]? = some (Zh9[i]'(by simp; omega)):=List.getElem?_eq_getElem _
   have hsm:=names_small _ (List.getElem_mem (show i < Zh9.length by simp; omega))
   generalize (Zh9[i]'(by simp; omega)) = nm at hx hsm
   obtain ⟨k,k1,k2⟩:=l2Field_at fields (by have:=hf.2.1; omega) nm
   have next:∀ (q:Int),0 <= q -> q <= p + 22 -> ∃ out p',Zaf.j5 fields i Zh9 key z c q = some ((key,out),(c,p')) /\ FewC 4 out /\ 0 <= p' /\ p' <= p + 22 * ((n + 1:Nat):Int):=fun q h2 h3=>by
    obtain ⟨out,p',e1,e2,e3,e4⟩:=doc_l4 hc fields hf key z n (i + 1) q (by omega) h2 (by omega)
    refine ⟨out,p',?_,e2,e3,by omega⟩
    rw [Zaf.j5_eq,Zc5 _ _ (by omega) (by omega),show (i:Int) + 1 = ((i + 1:Nat):Int) by omega]
    exact e1
   have hlen:(Zh9.length:Int) = 4:=rfl
   rw [Zaf.l4_eq,Zah,Zbg,if_pos (by rw [hlen]; omega),Zdh,if_pos (by omega),Zah,if_pos (by rw [hlen]; omega),Zcw,hx,Zac,k1,Zac,Zah]
   rcases k2 with k2 | ⟨j,f,rfl,k2⟩
   · rw [if_pos k2]
     exact next p hp (by omega)
   · obtain ⟨v,v1,v2,v3⟩:=Ze6 hc hp (by omega:p <= 1000000) (by omega:(1:Int) <= 4) (by omega)
     rw [if_neg (by omega),v1,Zac]
     simp only
     rw [Zci]
     by_cases hv:v = 0
     · rw [if_pos hv]
       exact next (p + 1) (by omega) (by omega)
     · rw [if_neg hv]
       obtain ⟨t,p',t1,t2,t3,t4⟩:=value_draw hc (show 0 <= p + 1 by omega) (by omega) fields j f k2 (fun t c' q=>Zaf.j14 fields i nm t Zh9 key z c' q)
       rw [Zaf.j100008_eq,Zdh,if_pos (by omega),Zah,Zbg,if_pos (by rw [hlen]; omega),Zcw,hx,Zac]
       obtain ⟨out,q,g1,g2,g3,g4⟩:=doc_l41 hc fields hf key z n (i + 1) [(nm,t)] p' (by omega) ⟨by simp,fun x hx=>by rw [List.mem_singleton.1 hx]; exact ⟨hsm,t2⟩⟩ t3 (by omega)
       have hj14:Zaf.j14 fields i nm t Zh9 key z c p' = some ((key,out),(c,q)):=by
        rw [Zaf.j14_eq,Zdb,if_pos (by rw [Zcr]; simp),Zaf.j5_1_eq,Zc5 _ _ (by omega) (by omega),show (i:Int) + 1 = ((i + 1:Nat):Int) by omega]
        exact g1
       exact ⟨out,q,t1.trans hj14,g2,g3,by omega⟩
def FewD (d:DocT):Prop:=d.1.size <= 100 /\ FewC 5 d.2
theorem keys_small:∀ s ∈ [bs [97],bs [98],bs [99],bs [100],bs [101],bs [107,57]],ByteArray.size s <= 100:=fun s hs=>by
 simp only [List.mem_cons,List.not_mem_nil,or_false] at hs
 rcases hs with rfl | rfl | rfl | rfl | rfl | rfl <;> decide
theorem doc_draw {c:List Int} (hc:Zic c) (fields:FLs) (hf:FewF fields) {p:Int} (hp:0 <= p) (hp':p <= 1800):∃ d p',Zaf ((c,p),fields) = some (d,(c,p')) /\ d.1.size <= 100 /\ FewC 4 d.2 /\ 0 <= p' /\ p' <= p + 90:=by
 obtain ⟨k,k1,k2⟩:=Zfr hc hp (by omega:p <= 1000000) [bs [97],bs [98],bs [99],bs [100],bs [101],bs [107,57]] (by simp) (by simp)
 obtain ⟨out,p',e1,e2,e3,e4⟩:=doc_l4 hc fields hf k (bs []) 4 0 (p + 1) (by omega) (by omega) (by omega)
 refine ⟨(k,out),p',?_,keys_small k k1,e2,e3,by omega⟩
 rw [spec_l11Doc_eq]
 simp only
 rw [k2,Zac]
 exact e1
end Go.E
namespace Go.E
open Go
theorem small3:∀ s ∈ [bs [],bs [65],bs [110,105,110,101,108,101,116,116,101]],ByteArray.size s <= 100:=fun s hs=>by
 simp only [List.mem_cons,List.not_mem_nil,or_false] at hs
 rcases hs with rfl | rfl | rfl <;> decide
theorem small4:∀ s ∈ [bs [122,122],bs [98,111,100,121],bs []],ByteArray.size s <= 100:=fun s hs=>by
 simp only [List.mem_cons,List.not_mem_nil,or_false] at hs
 rcases hs with rfl | rfl | rfl <;> decide
theorem small5:∀ s ∈ [bs [48,49],bs [],bs [120,44],bs [45,48],bs [114,101,100,44,44,98,108,117,101],bs [97,44,98,44,99,44,100,44,101],bs [119,111,114,100,115,32,104,101,114,101]],ByteArray.size s <= 100:=fun s hs=>by
 simp only [List.mem_cons,List.not_mem_nil,or_false] at hs
 rcases hs with rfl | rfl | rfl | rfl | rfl | rfl | rfl <;> decide
theorem small6:∀ s ∈ [bs [116,105,116,108,101],bs [122],bs []],ByteArray.size s <= 100:=fun s hs=>by
 simp only [List.mem_cons,List.not_mem_nil,or_false] at hs
 rcases hs with rfl | rfl | rfl <;> decide
theorem anyDoc_draw {c:List Int} (hc:Zic c) (fields:FLs) (hf:FewF fields) {p:Int} (hp:0 <= p) (hp':p <= 800):∃ d p',Zaq ((c,p),fields) = some (d,(c,p')) /\ FewD d /\ 0 <= p' /\ p' <= p + 130:=by
 obtain ⟨d,p1,d1,d2,d3,d4,d5⟩:=doc_draw hc fields hf hp (by omega)
 obtain ⟨v,v1,v2,v3⟩:=Ze6 hc d4 (by omega:p1 <= 1000000) (by omega:(1:Int) <= 14) (by omega)
 have hfew:FewD d:=⟨d2,by have:=d3.1; omega,d3.2⟩
 rw [spec_l11AnyDoc_eq]
 simp only
 rw [d1,Zac,v1,Zac]
 simp only
 rw [Zci,Zci,Zci]
 by_cases h0:v = 0
 · obtain ⟨s,s1,s2⟩:=Zfr hc (show 0 <= p1 + 1 by omega) (by omega:p1 + 1 <= 1000000) [bs [],bs [65],bs [110,105,110,101,108,101,116,116,101]] (by simp) (by simp)
   rw [if_pos h0,s2,Zac,Zaq.j10_eq]
   exact ⟨(s,d.2),p1 + 1 + 1,rfl,⟨small3 s s1,hfew.2⟩,by omega,by omega⟩
 · rw [if_neg h0]
   by_cases h1:v = 1
   · obtain ⟨s,s1,s2⟩:=Zfr hc (show 0 <= p1 + 1 by omega) (by omega:p1 + 1 <= 1000000) [bs [122,122],bs [98,111,100,121],bs []] (by simp) (by simp)
     obtain ⟨t,p2,t1,t2,t3,t4⟩:=anyText_draw hc (show 0 <= p1 + 1 + 1 by omega) (by omega:p1 + 1 + 1 <= 1000)
     rw [if_pos h1,s2,Zac]
     simp only
     rw [t1,Zac,Zdb,if_pos (by rw [Zcr]; simp; have:=d3.1; omega),Zaq.j10_eq]
     refine ⟨(d.1,appL d.2 ((s,t) :: [])),p2,rfl,⟨d2,by unfold appL; simp; exact d3.1,fun x hx=>?_⟩,t3,by omega⟩
     unfold appL at hx
     rcases List.mem_append.1 hx with h | h
     · exact d3.2 x h
     · rw [List.mem_singleton.1 h]; exact ⟨small4 s s1,t2⟩
   · rw [if_neg h1]
     by_cases h2:v = 2
     · rw [if_pos h2,Zah,Zbg]
       by_cases hl:(0:Int) < d.2.length
       · rw [if_pos hl]
         obtain ⟨k,k1,k2,k3⟩:=Ze6 hc (show 0 <= p1 + 1 by omega) (by omega:p1 + 1 <= 1000000) (n:=(d.2.length:Int)) (by omega) (by have:=d3.1; omega)
         obtain ⟨s,s1,s2⟩:=Zfr hc (show 0 <= p1 + 1 + 1 by omega) (by omega:p1 + 1 + 1 <= 1000000) [bs [48,49],bs [],bs [120,44],bs [45,48],bs [114,101,100,44,44,98,108,117,101],bs [97,44,98,44,99,44,100,44,101],bs [119,111,114,100,115,32,104,101,114,101]] (by simp) (by simp)
         obtain ⟨hk,ek⟩:=atL_get d.2 k k2 (by omega)
         rw [Zaq.j100009_eq,Zbg,k1,Zac]
         simp only
         rw [s2,Zac,Zdh,if_pos k2,Zah,if_pos (by omega),ek,Zac,Zaq.j10_eq]
         refine ⟨(d.1,setL d.2 k (d.2[k.toNat].1,s)),p1 + 1 + 1 + 1,rfl,⟨d2,by unfold setL; simp; have:=d3.1; omega,fun x hx=>?_⟩,by omega,by omega⟩
         unfold setL at hx
         rcases List.mem_or_eq_of_mem_set hx with h | h
         · exact d3.2 x h
         · rw [h]
           exact ⟨(d3.2 _ (List.getElem_mem hk)).1,by have:=small5 s s1; show s.size <= 3000; omega⟩
       · rw [if_neg hl,Zaq.j10_eq]
         exact ⟨d,p1 + 1,rfl,hfew,by omega,by omega⟩
     · rw [if_neg h2,Zaq.j10_eq]
       exact ⟨d,p1 + 1,rfl,hfew,by omega,by omega⟩
def FewR (n:Nat) (rows:List RwT):Prop:=rows.length <= n /\ ∀ r ∈ rows,FewD r.2
theorem without_ok (rows:List RwT) (k:ByteArray) (hl:rows.length <= 1000):Zar (rows,k) = some (rows.filter fun r=>!decide (r.2.1 = k)):=by
 rw [spec_l4Without_eq]
 suffices H:∀ (n i:Nat) (out:List RwT),i + n = rows.length -> out.length <= i -> Zar.l3 rows k i out = some (out ++ (rows.drop i).filter fun r=>!decide (r.2.1 = k)) by
  have:=H rows.length 0 [] (by omega) (Nat.le_refl _)
  rwa [List.drop_zero,List.nil_append] at this
 intro n
 induction n with
 | zero =>
   intro i out e ho
   rw [Zar.l3_eq,Zah,Zbg,if_neg (by omega),Zar.j7_eq,List.drop_eq_nil_of_le (by omega)]; simp
 | succ n ih =>
   intro i out e ho
   obtain ⟨r,hr,hd⟩:=Zdr (l:=rows) (i:=i) (by omega)
   rw [Zar.l3_eq,Zah,Zbg,if_pos (by omega),Zcw,hr,Zac,Zck,Zef,Zac,Zar.j4_eq,Zar.j4_eq,Zc5 _ _ (by omega) (by omega),show (i:Int) + 1 = ((i + 1:Nat):Int) by omega,hd,List.filter_cons]
   by_cases h:r.2.1 = k
   · rw [if_pos h,ih (i + 1) out (by omega) (by omega)]; simp [h]
   · rw [if_neg h,Zdb,if_pos (by rw [Zcr]; simp; omega),ih (i + 1) _ (by omega) (by unfold appL; simp; omega)]; simp [h,appL]
theorem few_filter {n:Nat} {rows:List RwT} (h:FewR n rows) (f:RwT -> Bool):FewR n (rows.filter f):=⟨Nat.le_trans (List.length_filter_le _ _) h.1,fun r hr=>h.2 r (List.mem_filter.1 hr).1⟩
theorem few_szR {n:Nat} {rows:List RwT} (h:FewR n rows) (hn:n <= 1000):SzR rows :=
 ⟨by have:=h.1; omega,fun r hr=>by
  obtain ⟨h1,h2,h3⟩:=h.2 r hr
  exact ⟨by omega,by omega,fun c hc=>by have:=h3 c hc; omega⟩⟩
theorem few_szF {l:FLs} (h:FewF l):SzF l:=⟨by have:=h.2.1; omega,fun f hf=>by have:=h.2.2 f hf; omega⟩
theorem few_ev {n:Nat} (fields:FLs):∀ {rows:List RwT},FewR n rows -> (evR fields rows).length <= 15005 * rows.length
 | [],_=>by simp [evR]
 | x :: r,h=>by
   have ih:=few_ev (n:=n) (rows:=r) fields ⟨by have:=h.1; simp at this; omega,fun y hy=>h.2 y (List.mem_cons_of_mem _ hy)⟩
   obtain ⟨_,h2,h3⟩:=h.2 x (List.mem_cons_self ..)
   have hc:∀ cells:List CT2,(∀ c ∈ cells,c.2.size <= 3000) -> (evC fields x.1 cells).length <= 3001 * cells.length:=by
    intro cells
    induction cells with
    | nil=>intro _; simp [evC]
    | cons c t iht =>
      intro hh
      have i1:=iht (fun y hy=>hh y (List.mem_cons_of_mem _ hy))
      have i2:=hh c (List.mem_cons_self ..)
      rw [evC_cons,List.length_append,List.length_cons]
      have:(if Zeo fields c.1 = some 1 then evT c.1 x.1 (Zf5 c.2) 0 else []).length <= 3001:=by
       split
       · have:=evT_len c.1 x.1 (Zf5 c.2) 0
         have:=termsV_len2 c.2
         omega
       · simp
      omega
   have:=hc x.2.2 (fun c hc=>(h3 c hc).2)
   rw [evR_cons,List.length_append,List.length_cons]
   omega
theorem build_l31 (fields:FLs) (next z:Int) (rows:List RwT) (hr:FewR 100 rows) (hf:FewF fields):∀ (n i:Nat) (out:List RwT),i + n = rows.length -> out = rows.take i ->
  Za1.l3_1 rows i next out fields z = some (fields,(rows,(madeV fields rows,next)))
 | 0,i,out,e,ho=>by
   have hlen:=hr.1
   have hz:=few_szR hr (by omega)
   have hev:=few_ev fields hr
   rw [List.take_of_length_le (by omega)] at ho
   rw [ho]
   rw [Za1.l3_1_eq,Zah,Zbg,if_neg (by omega),Za1.j8_1_eq,made_ok fields (few_szF hf).1 rows (okR_of rows hz) (by omega),Zac]
 | n + 1,i,out,e,ho=>by
   have hlen:=hr.1
   obtain ⟨r,hx,hd⟩:=Zdr (l:=rows) (i:=i) (by omega)
   have hrc:=(hr.2 r (List.mem_of_getElem? hx)).2.1
   have hol:out.length <= i:=by rw [ho,List.length_take]; omega
   rw [Za1.l3_1_eq,Zah,Zbg,if_pos (by omega),Zcw,hx]
   simp only [Zac]
   rw [Zdb,if_pos (by rw [Zcr]; simp; omega),Zdb,if_pos (by rw [Zcr]; simp; omega),Zc5 _ _ (by omega) (by omega),show (i:Int) + 1 = ((i + 1:Nat):Int) by omega]
   refine build_l31 fields next z rows hr hf n (i + 1) _ (by omega) ?_
   rw [List.take_add_one,hx,← ho]
   rfl
theorem build_ok (fields:FLs) (next:Int) (rows:List RwT) (hr:FewR 100 rows) (hf:FewF fields):Za1 (fields,(rows,next)) = some (fields,(rows,(madeV fields rows,next))):=by
 have hfl:=hf.2.1
 have hz:=few_szR hr (by omega)
 rw [spec_l4Build_eq,Zdb,if_pos (by rw [Zcr]; simp; omega)]
 rw [show appL [] fields = fields from rfl]
 cases rows with
 | nil =>
   rw [Za1.l3_eq,Zah,Zbg,if_neg (by simp),Za1.j8_eq,made_ok fields (few_szF hf).1 [] (okR_of [] hz) (by simp [evR]),Zac]
 | cons r t =>
   have hrc:=(hr.2 r (List.mem_cons_self ..)).2.1
   rw [Za1.l3_eq,Zah,Zbg,if_pos (by first | (simp; done) | (simp; omega)),show atL (r :: t) 0 = some r from rfl]
   simp only [Zac]
   rw [Zdb,if_pos (by rw [Zcr]; simp; omega),Zdb,if_pos (by rw [Zcr]; simp),show addI .i64 0 1 = ((1:Nat):Int) by decide]
   exact build_l31 fields next 0 (r :: t) hr hf t.length 1 _ (by simp; omega) rfl
theorem index_l12 {c:List Int} (fields:FLs) (hf:FewF fields) (z p:Int):∀ (n:Nat) (id m:Int) (rows:List RwT),m + (n:Int) = 8 -> 0 <= m -> FewR (30 - n) rows ->
  n <= 8 -> ∃ id' rows',Zaj.l12 fields id m rows z c p = Zaj.j16 fields id' rows' z c p /\ FewR 30 rows'
 | 0,id,m,rows,e,hm,hr,h8=>⟨id,rows,by rw [Zaj.l12_eq,Zah,if_neg (by omega)],hr⟩
 | n + 1,id,m,rows,e,hm,hr,h8=>by
   obtain ⟨s,s1,s2⟩:=dec_digit m hm (by omega)
   have hrl:=hr.1
   have hz1:(bs [122]).size = 1:=rfl
   rw [Zaj.l12_eq,Zah,if_pos (by omega),s1,Zac,Zh6,if_pos (by rw [Zcr]; omega),Zdb,if_pos (by rw [Zcr]; simp; omega),Zc5 m 1 (by omega) (by omega)]
   refine index_l12 fields hf z p n _ (m + 1) _ (by omega) (by omega) ⟨by unfold appL; simp; omega,fun r hx=>?_⟩ (by omega)
   unfold appL at hx
   rcases List.mem_append.1 hx with h | h
   · exact hr.2 r h
   · rw [List.mem_singleton.1 h]
     refine ⟨?_,by simp,fun x hx=>nomatch hx⟩
     show (catS (bs [122]) s).size <= 100
     rw [Zir]; omega
theorem j16_ok {c:List Int} (fields:FLs) (hf:FewF fields) (z p id:Int) (rows:List RwT) (hr:FewR 30 rows):Zaj.j16 fields id rows z c p = some ((fields,(rows,(madeV fields rows,id))),(c,p)):=by
 rw [Zaj.j16_eq,build_ok fields id rows ⟨by have:=hr.1; omega,hr.2⟩ hf,Zac]
theorem index_l5 {c:List Int} (hc:Zic c) (fields:FLs) (hf:FewF fields) (z:Int):∀ (n:Nat) (id:Int) (rows:List RwT) (p:Int),n <= 6 -> 0 <= p -> p + 92 * (n:Int) <= 700 -> FewR (10 - n) rows ->
  ∃ x p',Zaj.l5 fields id n rows z c p = some (x,(c,p')) /\ x.1 = fields /\ FewR 30 x.2.1 /\ x.2.2.1 = madeV x.1 x.2.1 /\ 0 <= p' /\ p' <= p + 92 * n + 1
 | 0,id,rows,p,h6,hp,hp',hr=>by
   obtain ⟨v,v1,v2,v3⟩:=Ze6 hc hp (by omega:p <= 1000000) (by omega:(1:Int) <= 30) (by omega)
   rw [Zaj.l5_eq,Zah,if_neg (by omega),Zaj.j10_eq,v1,Zac]
   simp only
   rw [Zci]
   have hrl:=hr.1
   by_cases h0:v = 0
   · rw [if_pos h0,Zbg]
     by_cases h8:rows.length <= 8
     · obtain ⟨id',rows',e1,e2⟩:=index_l12 (c:=c) fields hf z (p + 1) (8 - rows.length) id (rows.length:Int) rows (by omega) (by omega) ⟨by omega,hr.2⟩ (by omega)
       rw [e1,j16_ok fields hf z (p + 1) id' rows' e2]
       exact ⟨_,p + 1,rfl,rfl,e2,rfl,by omega,by omega⟩
     · have h30:FewR 30 rows:=⟨by omega,hr.2⟩
       rw [Zaj.l12_eq,Zah,if_neg (by omega),j16_ok fields hf z (p + 1) id rows h30]
       exact ⟨_,p + 1,rfl,rfl,h30,rfl,by omega,by omega⟩
   · have h30:FewR 30 rows:=⟨by omega,hr.2⟩
     rw [if_neg h0,j16_ok fields hf z (p + 1) id rows h30]
     exact ⟨_,p + 1,rfl,rfl,h30,rfl,by omega,by omega⟩
 | n + 1,id,rows,p,h6,hp,hp',hr=>by
   have hrl:=hr.1
   obtain ⟨d,p1,d1,d2,d3,d4,d5⟩:=doc_draw hc fields hf hp (by omega)
   obtain ⟨v,v1,v2,v3⟩:=Ze6 hc d4 (by omega:p1 <= 1000000) (by omega:(1:Int) <= 2) (by omega)
   have hfl:=few_filter hr (fun r=>!decide (r.2.1 = d.1))
   have hfll:=hfl.1
   rw [Zaj.l5_eq,Zah,if_pos (by omega)]
   rw [d1,Zac,Zaj.j100008_eq]
   simp only
   rw [without_ok rows d.1 (by omega),Zac,Zdb,if_pos (by rw [Zcr]; simp; omega),v1,Zac]
   simp only
   rw [Zkf _ _ (by omega) (by omega),show ((n + 1:Nat):Int) - 1 = (n:Int) by omega]
   obtain ⟨x,p',e1,e2,e3,e4,e5,e6⟩:=index_l5 hc fields hf z n (addI .i64 (addI .i64 id 1) v) (appL (rows.filter fun r=>!decide (r.2.1 = d.1)) ((id,(d.1,d.2)) :: [])) (p1 + 1) (by omega) (by omega) (by omega) ⟨by unfold appL; simp at hfll ⊢; omega,fun r hx=>by
    unfold appL at hx
    rcases List.mem_append.1 hx with h | h
    · exact hfl.2 r h
    · rw [List.mem_singleton.1 h]; exact ⟨d2,by have:=d3.1; show d.2.length <= 5; omega,d3.2⟩⟩
   exact ⟨x,p',e1,e2,e3,e4,e5,by omega⟩
theorem index_draw {c:List Int} (hc:Zic c) {p:Int} (hp:0 <= p) (hp':p <= 10):∃ x p',Zaj (c,p) = some (x,(c,p')) /\ FewF x.1 /\ FewR 30 x.2.1 /\ x.2.2.1 = madeV x.1 x.2.1 /\ 0 <= p' /\ p' <= 600:=by
 obtain ⟨fields,f1,f2⟩:=fields_draw hc hp (by omega)
 obtain ⟨v,v1,v2,v3⟩:=Ze6 hc (show 0 <= p + 1 by omega) (by omega:p + 1 <= 1000000) (by omega:(1:Int) <= 2) (by omega)
 obtain ⟨m,m1,m2,m3⟩:=Ze6 hc (show 0 <= p + 1 + 1 by omega) (by omega:p + 1 + 1 <= 1000000) (by omega:(1:Int) <= 6) (by omega)
 obtain ⟨n,rfl⟩:∃ n:Nat,m = (n:Int):=⟨m.toNat,by omega⟩
 obtain ⟨x,p',e1,e2,e3,e4,e5,e6⟩:=index_l5 hc fields f2 0 n v [] (p + 1 + 1 + 1) (by omega) (by omega) (by omega) ⟨by simp,fun r h=>nomatch h⟩
 rw [spec_l11Index_eq]
 simp only
 rw [f1,Zac,v1,Zac]
 simp only
 rw [m1,Zac]
 exact ⟨x,p',e1,e2 ▸ f2,e3,e4,e5,by omega⟩
theorem anyFields_draw {c:List Int} (hc:Zic c) {p:Int} (hp:0 <= p) (hp':p <= 1000):∃ l p',Zau (c,p) = some (l,(c,p')) /\ l.length <= 11 /\ (∀ f ∈ l,f.1.size <= 100) /\ 0 <= p' /\ p' <= p + 5:=by
 obtain ⟨l,f1,f2,f3,f4⟩:=fields_draw hc hp (by omega)
 obtain ⟨v,v1,v2,v3⟩:=Ze6 hc (show 0 <= p + 1 by omega) (by omega:p + 1 <= 1000000) (by omega:(1:Int) <= 12) (by omega)
 rw [spec_l11AnyFields_eq]
 simp only
 rw [f1,Zac,Zdb,if_pos (by rw [Zcr]; simp; omega),v1,Zac]
 simp only
 rw [show appL [] l = l from rfl,Zci,Zci,Zci]
 by_cases h0:v = 0
 · obtain ⟨s,s1,s2⟩:=Zfr hc (show 0 <= p + 1 + 1 by omega) (by omega:p + 1 + 1 <= 1000000) [bs [116,105,116,108,101],bs [122],bs []] (by simp) (by simp)
   obtain ⟨a,a1,a2,a3⟩:=Ze6 hc (show 0 <= p + 1 + 1 + 1 by omega) (by omega:p + 1 + 1 + 1 <= 1000000) (by omega:(1:Int) <= 5) (by omega)
   obtain ⟨b,b1,b2,b3⟩:=Ze6 hc (show 0 <= p + 1 + 1 + 1 + 1 by omega) (by omega:p + 1 + 1 + 1 + 1 <= 1000000) (by omega:(1:Int) <= 11) (by omega)
   rw [if_pos h0,s2,Zac]
   simp only
   rw [a1,Zac]
   simp only
   rw [b1,Zac,Zdb,if_pos (by rw [Zcr]; simp; omega),Zau.j9_eq]
   refine ⟨_,p + 1 + 1 + 1 + 1 + 1,rfl,by unfold appL; simp; omega,fun f hf=>?_,by omega,by omega⟩
   unfold appL at hf
   rcases List.mem_append.1 hf with h | h
   · exact f4 f h
   · rw [List.mem_singleton.1 h]; exact small6 s s1
 · rw [if_neg h0]
   by_cases h1:v = 1
   · obtain ⟨w,w1,w2⟩:=one_draw hc (show 0 <= p + 1 + 1 by omega) (by omega:p + 1 + 1 <= 1000000) [0,9,10] (by simp) (by simp)
     cases l with
     | nil=>simp at f2
     | cons x t =>
       rw [if_pos h1,w2,Zac,Zdh,if_pos (by omega),Zah,Zbg,if_pos (by first | (simp; done) | (simp; omega)),show atL (x :: t) 0 = some x from rfl,Zac,Zau.j9_eq]
       refine ⟨_,p + 1 + 1 + 1,rfl,by unfold setL; simp at f3 ⊢; omega,fun f hf=>?_,by omega,by omega⟩
       unfold setL at hf
       rcases List.mem_or_eq_of_mem_set hf with h | h
       · exact f4 f h
       · rw [h]; exact f4 x (List.mem_cons_self ..)
   · rw [if_neg h1]
     by_cases h2:v = 2
     · rw [if_pos h2,Zau.j9_1_eq]
       exact ⟨[],p + 1 + 1,rfl,by simp,(fun f h=>by cases h),by omega,by omega⟩
     · rw [if_neg h2,Zau.j9_eq]
       exact ⟨l,_,rfl,by omega,f4,by omega,by omega⟩
end Go.E
namespace Go.E
open Go
theorem made_sz {n:Nat} (fields:FLs) {rows:List RwT} (h:FewR n rows) (hn:n <= 1000):SzE (madeV fields rows):=by
 have:=few_ev fields h
 have:=h.1
 exact bd_sz (made_bd fields rows) (by omega)
theorem szE_sub {l m:List Ent} (h:SzE l) (hm:∀ e ∈ m,e ∈ l) (hl:m.length <= l.length):SzE m:=⟨Nat.le_trans hl h.1,fun e he=>h.2 e (hm e he)⟩
theorem anyIndex_draw {c:List Int} (hc:Zic c):∃ x p',Za0 (c,0) = some (x,(c,p')) /\ SzX x /\ x.2.1.length <= 31 /\ 0 <= p' /\ p' <= 800:=by
 obtain ⟨x,p,e1,e2,e3,e4,e5,e6⟩:=index_draw hc (p:=0) (by omega) (by omega)
 obtain ⟨v,v1,v2,v3⟩:=Ze6 hc e5 (by omega:p <= 1000000) (by omega:(1:Int) <= 16) (by omega)
 have hrl:=e3.1
 have hme:SzE x.2.2.1:=by rw [e4]; exact made_sz x.1 e3 (by omega)
 have hx:SzX x:=⟨few_szF e2,few_szR e3 (by omega),hme⟩
 rw [spec_l11AnyIndex_eq]
 simp only
 rw [e1,Zac,v1,Zac]
 simp only
 rw [Zci,Zci,Zci,Zci]
 by_cases h0:v = 0
 · obtain ⟨w,w1,w2⟩:=one_draw hc (show 0 <= p + 1 by omega) (by omega:p + 1 <= 1000000) [0,-1,999999999] (by simp) (by simp)
   rw [if_pos h0,w2,Zac,Za0.j12_eq]
   exact ⟨(x.1,(x.2.1,(x.2.2.1,w))),p + 1 + 1,rfl,hx,by show x.2.1.length <= 31; omega,by omega,by omega⟩
 · rw [if_neg h0]
   by_cases h1:v = 1
   · rw [if_pos h1,Zah,Zbg]
     by_cases hl:(0:Int) < x.2.2.1.length
     · rw [if_pos hl,Zd5,if_pos (by omega),Za0.j12_eq]
       refine ⟨(x.1,(x.2.1,(cutL x.2.2.1 1 (x.2.2.1.length:Int),x.2.2.2))),p + 1,rfl,⟨hx.1,hx.2.1,szE_sub hme (fun e he=>?_) ?_⟩,by show x.2.1.length <= 31; omega,by omega,by omega⟩
       · unfold cutL at he; exact List.mem_of_mem_take (List.mem_of_mem_drop he)
       · unfold cutL; simp
     · rw [if_neg hl,Za0.j12_eq]
       exact ⟨x,p + 1,rfl,hx,by omega,by omega,by omega⟩
   · rw [if_neg h1]
     by_cases h2:v = 2
     · obtain ⟨d,p1,d1,d2,d3,d4⟩:=anyDoc_draw hc x.1 e2 (show 0 <= p + 1 by omega) (by omega:p + 1 <= 800)
       rw [if_pos h2,d1,Zac]
       simp only
       rw [Zdb,if_pos (by rw [Zcr]; simp; omega),Za0.j12_eq]
       have hr31:FewR 31 (appL x.2.1 ((x.2.2.2,(d.1,d.2)) :: [])):=⟨by unfold appL; simp; omega,fun r hr=>by
        unfold appL at hr
        rcases List.mem_append.1 hr with h | h
        · exact e3.2 r h
        · rw [List.mem_singleton.1 h]; exact d2⟩
       exact ⟨(x.1,(appL x.2.1 ((x.2.2.2,(d.1,d.2)) :: []),(x.2.2.1,x.2.2.2))),p1,rfl,⟨hx.1,few_szR hr31 (by omega),hme⟩,hr31.1,d3,by omega⟩
     · rw [if_neg h2]
       by_cases h3:v = 3
       · obtain ⟨l,p1,l1,l2,l3,l4,l5⟩:=anyFields_draw hc (show 0 <= p + 1 by omega) (by omega:p + 1 <= 1000)
         rw [if_pos h3,l1,Zac,Za0.j12_eq]
         exact ⟨(l,(x.2.1,(x.2.2.1,x.2.2.2))),p1,rfl,⟨⟨by show l.length <= 1048576; omega,fun f hf=>by have:=l3 f hf; omega⟩,hx.2.1,hx.2.2⟩,by show x.2.1.length <= 31; omega,l4,by omega⟩
       · rw [if_neg h3,Za0.j12_eq]
         exact ⟨x,p + 1,rfl,hx,by omega,by omega,by omega⟩
theorem ids_l3 {c:List Int} (hc:Zic c) (x:IdxT) (hx:x.2.1.length <= 31):∀ (n i:Nat) (out:List Int) (p:Int),i + n = x.2.1.length -> out.length <= i -> 0 <= p -> p <= 1000 + i ->
  ∃ ids p',Za7.l3 i out x.1 x.2.1 x.2.2.1 x.2.2.2 c p = some (ids,(c,p')) /\ ids.length <= 40 /\ 0 <= p' /\ p' <= 2000
 | 0,i,out,p,e,ho,hp,hp'=>by
   obtain ⟨v,v1,v2,v3⟩:=Ze6 hc hp (by omega:p <= 1000000) (by omega:(1:Int) <= 5) (by omega)
   rw [Za7.l3_eq,Zah,Zbg,if_neg (by omega),Za7.j7_eq,v1,Zac]
   simp only
   rw [Zci]
   by_cases h0:v = 0
   · obtain ⟨w,w1,w2⟩:=one_draw hc (show 0 <= p + 1 by omega) (by omega:p + 1 <= 1000000) [-1,0,1,99] (by simp) (by simp)
     rw [if_pos h0,w2,Zac,Zdb,if_pos (by rw [Zcr]; simp; omega),Za7.j9_eq]
     exact ⟨_,p + 1 + 1,rfl,by unfold appL; simp; omega,by omega,by omega⟩
   · rw [if_neg h0,Za7.j9_eq]
     exact ⟨_,p + 1,rfl,by omega,by omega,by omega⟩
 | n + 1,i,out,p,e,ho,hp,hp'=>by
   obtain ⟨r,hr,hd⟩:=Zdr (l:=x.2.1) (i:=i) (by omega)
   obtain ⟨v,v1,v2,v3⟩:=Ze6 hc hp (by omega:p <= 1000000) (by omega:(1:Int) <= 3) (by omega)
   rw [Za7.l3_eq,Zah,Zbg,if_pos (by omega),v1,Zac]
   simp only
   rw [Zah,Zcw,hr,Zac,Za7.j4_eq,Za7.j4_eq,Zc5 _ _ (by omega) (by omega),show (i:Int) + 1 = ((i + 1:Nat):Int) by omega]
   by_cases h:0 < v
   · rw [if_pos h,Zdb,if_pos (by rw [Zcr]; simp; omega)]
     exact ids_l3 hc x hx n (i + 1) _ (p + 1) (by omega) (by unfold appL; simp; omega) (by omega) (by omega)
   · rw [if_neg h]
     exact ids_l3 hc x hx n (i + 1) out (p + 1) (by omega) (by omega) (by omega) (by omega)
theorem drawStat_ok (code:List Int) (hb:∀ b ∈ code,0 <= b /\ b <= 255):∃ x ids field,Zbd code = some (x,(ids,field)) /\ SzX x /\ x.2.1.length <= 31 /\ ids.length <= 40:=by
 obtain ⟨c,c1,hc⟩:=open_ok code hb
 obtain ⟨x,p,x1,x2,x3,x4,x5⟩:=anyIndex_draw hc
 obtain ⟨ids,q,i1,i2,i3,i4⟩:=ids_l3 hc x x3 x.2.1.length 0 [] p (by omega) (Nat.le_refl _) x4 (by omega)
 obtain ⟨s,s1,s2⟩:=Zfr hc i3 (by omega:q <= 1000000) [bs [112,114,105,99,101],bs [112,114,105,99,101],bs [112,114,105,99,101],bs [99,111,108,111,114]] (by simp) (by simp)
 refine ⟨x,ids,s,?_,x2,x3,i2⟩
 rw [spec_DrawStatOf_eq,c1,Zac]
 simp only
 rw [x1,Zac,Zbd.j100003_eq,spec_l11Ids_eq]
 simp only
 rw [show (0:Int) = ((0:Nat):Int) from rfl,i1,Zac,s2,Zac]
theorem kindL_ok (l:FLs) (v:ByteArray) (hl:l.length <= 1048576):Zb0 (l,v) = some ((Zeo l v).getD 0):=by
 rw [laws_sdKind_eq]
 suffices H:∀ (n i:Nat),i + n = l.length -> Zb0.l2 l v i = some ((Zeo (l.drop i) v).getD 0) by
  have:=H l.length 0 (by omega)
  rwa [List.drop_zero] at this
 intro n
 induction n with
 | zero=>intro i e; rw [Zb0.l2_eq,Zah,Zbg,if_neg (by omega),Zb0.j6_eq,List.drop_eq_nil_of_le (by omega),kindOf_nil]; rfl
 | succ n ih =>
   intro i e
   obtain ⟨x,hx,hd⟩:=Zdr (l:=l) (i:=i) (by omega)
   rw [Zb0.l2_eq,Zah,Zbg,if_pos (by omega),Zcw,hx,Zac,Zef,Zac,hd,kindOf_cons,Zc5 _ _ (by omega) (by omega),show (i:Int) + 1 = ((i + 1:Nat):Int) by omega,ih (i + 1) (by omega)]
   split <;> rfl
theorem sdIn_ok (l:List Int) (v:Int) (hl:l.length <= 2000000):Zcq (l,v) = some (hasN l v):=by
 rw [laws_sdIn_eq]
 suffices H:∀ (n i:Nat),i + n = l.length -> Zcq.l2 l v i = some ((l.drop i).any (fun y=>decide (y = v))) by
  have:=H l.length 0 (by omega)
  rwa [List.drop_zero] at this
 intro n
 induction n with
 | zero=>intro i e; rw [Zcq.l2_eq,Zah,Zbg,if_neg (by omega),Zcq.j6_eq,List.drop_eq_nil_of_le (by omega)]; rfl
 | succ n ih =>
   intro i e
   obtain ⟨x,hx,hd⟩:=Zdr (l:=l) (i:=i) (by omega)
   rw [Zcq.l2_eq,Zah,Zbg,if_pos (by omega),Zcw,hx,Zac,Zci,hd,List.any_cons,Zc5 _ _ (by omega) (by omega),show (i:Int) + 1 = ((i + 1:Nat):Int) by omega,ih (i + 1) (by omega)]
   by_cases h:x = v
   · rw [if_pos h]; simp [h]
   · rw [if_neg h]; simp [h]
def sumN:List Int -> Int
 | []=>0
 | n :: r=>n + sumN r
theorem sumN_nil:sumN [] = 0:=rfl
theorem Zkg (n:Int) (r:List Int):sumN (n :: r) = n + sumN r:=rfl
theorem sum_fold (l:List Int):∀ (s:Int),(∀ n ∈ l,-999999999 <= n /\ n <= 999999999) -> -4000000000000 + 1000000000 * (l.length:Int) <= s -> s + 1000000000 * (l.length:Int) <= 4000000000000 -> l.foldl (addI .i64) s = s + sumN l:=by
 induction l with
 | nil=>intro s _ _ _; rw [sumN_nil]; simp
 | cons n r ih =>
   intro s h h1 h2
   obtain ⟨b1,b2⟩:=h n (List.mem_cons_self ..)
   rw [List.length_cons] at h1 h2
   rw [List.foldl_cons,Zc5 s n (by omega) (by omega),ih _ (fun m hm=>h m (List.mem_cons_of_mem _ hm)) (by omega) (by omega),Zkg]
   omega
theorem sum_bd:∀ (l:List Int),(∀ n ∈ l,-999999999 <= n /\ n <= 999999999) -> -999999999 * (l.length:Int) <= sumN l /\ sumN l <= 999999999 * (l.length:Int)
 | [],_=>by rw [sumN_nil]; simp
 | n :: r,h=>by
   have:=sum_bd r (fun m hm=>h m (List.mem_cons_of_mem _ hm))
   have:=h n (List.mem_cons_self ..)
   rw [Zkg,List.length_cons]; omega
theorem minF_le:∀ (l:List Int) (a:Int),l.foldl minI a <= a /\ ∀ n ∈ l,l.foldl minI a <= n
 | [],a=>⟨Int.le_refl _,fun n h=>nomatch h⟩
 | m :: r,a=>by
   obtain ⟨h1,h2⟩:=minF_le r (minI a m)
   have e:minI a m <= a /\ minI a m <= m:=by unfold minI; split <;> omega
   rw [List.foldl_cons]
   exact ⟨by omega,fun n hn=>by rcases List.mem_cons.1 hn with h | h; (rw [h]; omega); exact h2 n h⟩
theorem maxF_ge:∀ (l:List Int) (a:Int),a <= l.foldl maxI a /\ ∀ n ∈ l,n <= l.foldl maxI a
 | [],a=>⟨Int.le_refl _,fun n h=>nomatch h⟩
 | m :: r,a=>by
   obtain ⟨h1,h2⟩:=maxF_ge r (maxI a m)
   have e:a <= maxI a m /\ m <= maxI a m:=by unfold maxI; split <;> omega
   rw [List.foldl_cons]
   exact ⟨by omega,fun n hn=>by rcases List.mem_cons.1 hn with h | h; (rw [h]; omega); exact h2 n h⟩
theorem minF_mem:∀ (l:List Int) (a:Int),l.foldl minI a = a ∨ l.foldl minI a ∈ l
 | [],a=>.inl rfl
 | m :: r,a=>by
   rw [List.foldl_cons]
   rcases minF_mem r (minI a m) with h | h
   · have e:minI a m = a ∨ minI a m = m:=by unfold minI; split <;> simp
     rcases e with e | e
     · exact .inl (by rw [h,e])
     · exact .inr (by rw [h,e]; exact List.mem_cons_self ..)
   · exact .inr (List.mem_cons_of_mem _ h)
theorem maxF_mem:∀ (l:List Int) (a:Int),l.foldl maxI a = a ∨ l.foldl maxI a ∈ l
 | [],a=>.inl rfl
 | m :: r,a=>by
   rw [List.foldl_cons]
   rcases maxF_mem r (maxI a m) with h | h
   · have e:maxI a m = a ∨ maxI a m = m:=by unfold maxI; split <;> simp
     rcases e with e | e
     · exact .inl (by rw [h,e])
     · exact .inr (by rw [h,e]; exact List.mem_cons_self ..)
   · exact .inr (List.mem_cons_of_mem _ h)
theorem Zkh {l:List Int} (hl:l.length <= 31) (hb:∀ n ∈ l,-999999999 <= n /\ n <= 999999999):(Zki l).1 = (l.length:Int) /\ (Zki l).2.1 = sumN l /\ (l ≠ [] -> (Zki l).2.2.1 ∈ l /\ (Zki l).2.2.2 ∈ l /\ ∀ n ∈ l,(Zki l).2.2.1 <= n /\ n <= (Zki l).2.2.2):=by
 cases l with
 | nil=>exact ⟨rfl,rfl,fun h=>absurd rfl h⟩
 | cons x r =>
   have hrl:r.length <= 30:=by simp at hl; omega
   have hs:=sum_fold (x :: r) 0 hb (by omega) (by omega)
   rw [statV_cons x r (by omega) (hb x (List.mem_cons_self ..)),hs]
   refine ⟨rfl,by simp,fun _=>⟨?_,?_,fun n hn=>?_⟩⟩
   · rcases minF_mem r x with h | h
     · show r.foldl minI x ∈ _; rw [h]; exact List.mem_cons_self ..
     · exact List.mem_cons_of_mem _ h
   · rcases maxF_mem r x with h | h
     · show r.foldl maxI x ∈ _; rw [h]; exact List.mem_cons_self ..
     · exact List.mem_cons_of_mem _ h
   · have h1:=minF_le r x
     have h2:=maxF_ge r x
     rcases List.mem_cons.1 hn with h | h
     · rw [h]; exact ⟨h1.1,h2.1⟩
     · exact ⟨h1.2 n h,h2.2 n h⟩
theorem parts_num (field:ByteArray) (ids:List Int):∀ (rows:List RwT),((rows.filterMap (numR field)).length = (Zg8 field ids rows).length + (rows.filterMap fun r=>if hasN ids r.1 = true then none else numR field r).length) /\
  sumN (rows.filterMap (numR field)) = sumN (Zg8 field ids rows) + sumN (rows.filterMap fun r=>if hasN ids r.1 = true then none else numR field r) /\ ∀ n ∈ Zg8 field ids rows,n ∈ rows.filterMap (numR field)
 | []=>⟨rfl,rfl,fun n h=>nomatch h⟩
 | r :: t=>by
   obtain ⟨h1,h2,h3⟩:=parts_num field ids t
   rw [numsV_cons,List.filterMap_cons,List.filterMap_cons]
   cases hn:numR field r with
   | none =>
     simp only [ite_self]
     exact ⟨h1,h2,h3⟩
   | some m =>
     by_cases h:hasN ids r.1 = true
     · rw [if_pos h,if_pos h]
       simp only [List.length_cons,Zkg]
       refine ⟨by omega,by omega,fun n hm=>?_⟩
       rcases List.mem_cons.1 hm with e | e
       · rw [e]; exact List.mem_cons_self ..
       · exact List.mem_cons_of_mem _ (h3 n e)
     · rw [if_neg h,if_neg h]
       simp only [List.length_cons,Zkg]
       exact ⟨by omega,by omega,fun n hm=>List.mem_cons_of_mem _ (h3 n hm)⟩
end Go.E
namespace Go.E
open Go
def restI (ids:List Int) (rows:List RwT):List Int:=(rows.filter fun r=>!hasN ids r.1).map (·.1)
theorem parts_l10 (field:ByteArray) (T:StT) (ids:List Int) (hi:ids.length <= 2000000) (x:IdxT) (hx:x.2.1.length <= 31):∀ (n i:Nat) (rest all:List Int),i + n = x.2.1.length -> rest.length <= i -> all.length <= i ->
  laws_FnStatParts.l10 field i rest all T.1 T.2.1 T.2.2.1 T.2.2.2 ids x.1 x.2.1 x.2.2.1 x.2.2.2 = laws_FnStatParts.j15 field (rest ++ restI ids (x.2.1.drop i)) (all ++ (x.2.1.drop i).map (·.1)) T.1 T.2.1 T.2.2.1 T.2.2.2 x.1 x.2.1 x.2.2.1 x.2.2.2
 | 0,i,rest,all,e,hr,ha=>by
   rw [laws_FnStatParts.l10_eq,Zah,Zbg,if_neg (by omega),List.drop_eq_nil_of_le (by omega)]
   simp [restI]
 | n + 1,i,rest,all,e,hr,ha=>by
   obtain ⟨r,hri,hd⟩:=Zdr (l:=x.2.1) (i:=i) (by omega)
   have hnext:addI .i64 (i:Int) 1 = ((i + 1:Nat):Int):=by rw [Zc5 _ _ (by omega) (by omega)]; omega
   rw [laws_FnStatParts.l10_eq,Zah,Zbg,if_pos (by omega),Zcw,hri,Zac,Zdb,if_pos (by rw [Zcr]; simp; omega),Zac,sdIn_ok ids r.1 hi,Zac,Zck,Zac,laws_FnStatParts.j11_eq,laws_FnStatParts.j11_eq,hnext,Zdb,if_pos (by rw [Zcr]; simp; omega),hd]
   cases h:hasN ids r.1 with
   | true =>
     rw [Zeu,parts_l10 field T ids hi x hx n (i + 1) rest _ (by omega) (by omega) (by unfold appL; simp; omega)]
     simp [restI,h,appL]
   | false =>
     rw [Ze7,parts_l10 field T ids hi x hx n (i + 1) _ _ (by omega) (by unfold appL; simp; omega) (by unfold appL; simp; omega)]
     simp [restI,h,appL]
theorem fm_congr {α β:Type} {f g:α -> Option β}:∀ {l:List α},(∀ x ∈ l,f x = g x) -> l.filterMap f = l.filterMap g
 | [],_=>rfl
 | x :: r,h=>by rw [List.filterMap_cons,List.filterMap_cons,h x (List.mem_cons_self ..),fm_congr (l:=r) (fun y hy=>h y (List.mem_cons_of_mem _ hy))]
theorem nums_all (field:ByteArray) (rows:List RwT):Zg8 field (rows.map (·.1)) rows = rows.filterMap (numR field):=by
 unfold Zg8
 refine fm_congr fun r hr=>?_
 rw [if_pos ((hasN_iff _ _).2 (List.mem_map.2 ⟨r,hr,rfl⟩))]
theorem nums_rest (field:ByteArray) (ids:List Int) (rows:List RwT):Zg8 field (restI ids rows) rows = rows.filterMap fun r=>if hasN ids r.1 = true then none else numR field r:=by
 unfold Zg8
 refine fm_congr fun r hr=>?_
 by_cases h:hasN ids r.1 = true
 · rw [if_pos h,if_neg]
   intro hc
   obtain ⟨r',h1,h2⟩:=List.mem_map.1 ((hasN_iff _ _).1 hc)
   have h3:=(List.mem_filter.1 h1).2
   have h2':r'.1 = r.1:=h2
   simp only [h2',h] at h3
   simp at h3
 · rw [if_neg h,if_pos]
   refine (hasN_iff _ _).2 (List.mem_map.2 ⟨r,List.mem_filter.2 ⟨hr,?_⟩,rfl⟩)
   simpa using h
theorem eqI_refl (a:Int):eqI a a = true:=by unfold eqI; simp
theorem statParts_law (code:List Int) (hb:∀ b ∈ code,0 <= b /\ b <= 255):laws_FnStatParts code = some true:=by
 rw [laws_FnStatParts_eq,Zah]
 split
 · rfl
 obtain ⟨x,ids,field,h1,hx,h31,hi⟩:=drawStat_ok code hb
 have hS:=sStat_ok x hx ids (by omega) field
 have hI:=iStat_ok' x hx ids (by omega) field
 rw [h1,Zac]
 simp only
 rw [show ((x.1,(x.2.1,(x.2.2.1,x.2.2.2))):IdxT) = x from rfl,hI,Zac,hS,Zac]
 simp only [eqI_refl,andB,Bool.and_self,notB,Bool.not_true,Ze7,Zac]
 rw [sIndex_ok x hx,Zac,kindL_ok x.1 field hx.1.1,Zac]
 cases hok:ixOkB x with
 | false=>rfl
 | true =>
   simp only [Bool.not_true,Ze7]
   rw [kind_dec _ 2 (by omega)]
   by_cases hk:Zeo x.1 field = some 2
   · rw [decide_eq_true hk]
     simp only [Bool.not_true,Ze7]
     have hl:=parts_l10 field (statX x ids field) ids (by omega) x h31 x.2.1.length 0 [] [] (by omega) (Nat.le_refl _) (Nat.le_refl _)
     rw [List.drop_zero,List.nil_append,List.nil_append] at hl
     rw [show (0:Int) = ((0:Nat):Int) from rfl,hl,laws_FnStatParts.j15_eq,show ((x.1,(x.2.1,(x.2.2.1,x.2.2.2))):IdxT) = x from rfl]
     have hal:(x.2.1.map (·.1)).length <= 2000000:=by rw [List.length_map]; omega
     have hrl:(restI ids x.2.1).length <= 2000000:=by
      unfold restI
      rw [List.length_map]
      have:=List.length_filter_le (fun r:RwT=>!hasN ids r.1) x.2.1
      omega
     rw [iStat_ok' x hx _ hal field,Zac,iStat_ok' x hx _ hrl field,Zac]
     have eX:∀ is:List Int,statX x is field = Zki (Zg8 field is x.2.1):=fun is=>by unfold statX; rw [if_pos ⟨hok,hk⟩]
     rw [eX,eX,eX,nums_all,nums_rest]
     obtain ⟨q1,q2,q3⟩:=parts_num field ids x.2.1
     have hT:=numsV_bd field ids x.2.1
     have hA:∀ n ∈ x.2.1.filterMap (numR field),-999999999 <= n /\ n <= 999999999:=by rw [← nums_all]; exact numsV_bd _ _ _
     have hR:∀ n ∈ (x.2.1.filterMap fun r=>if hasN ids r.1 = true then none else numR field r),-999999999 <= n /\ n <= 999999999:=by rw [← nums_rest]; exact numsV_bd _ _ _
     have lT:=numsV_len field ids x.2.1
     have lA:(x.2.1.filterMap (numR field)).length <= x.2.1.length:=List.length_filterMap_le _ _
     generalize Zg8 field ids x.2.1 = LT at *
     generalize x.2.1.filterMap (numR field) = LA at *
     generalize (x.2.1.filterMap fun r=>if hasN ids r.1 = true then none else numR field r) = LR at *
     obtain ⟨t1,t2,t3⟩:=Zkh (l:=LT) (by omega) hT
     obtain ⟨a1,a2,a3⟩:=Zkh (l:=LA) (by omega) hA
     obtain ⟨r1,r2,r3⟩:=Zkh (l:=LR) (by omega) hR
     have sT:=sum_bd LT hT
     have sR:=sum_bd LR hR
     rw [Zci,t1,r1,a1,Zc5 _ _ (by omega) (by omega),if_pos (by omega),Zci,t2,r2,a2,Zc5 _ _ (by omega) (by omega),if_pos (by omega),Zci]
     by_cases h0:(LT.length:Int) = 0
     · rw [if_pos (by omega)]
     · have hne:LT ≠ []:=fun e=>h0 (by rw [e]; rfl)
       obtain ⟨u1,u2,u3⟩:=t3 hne
       have hneA:LA ≠ []:=fun e=>by have:=q3 _ u1; rw [e] at this; cases this
       obtain ⟨w1,w2,w3⟩:=a3 hneA
       have b1:=w3 _ (q3 _ u1)
       have b2:=w3 _ (q3 _ u2)
       rw [if_neg (by omega),Zdh,if_pos b1.1]
       unfold leI
       rw [decide_eq_true b2.2]
   · rw [decide_eq_false hk]
     rfl
end Go.E
namespace Go.E
open Go
theorem stat_bytes {c:List Int} (h:Good' (.sl (.int .u8)) c):∀ b ∈ c,0 <= b /\ b <= 255:=fun b hb=>bounds_u8 (h.2 b hb)
theorem statParts' (c:List Int) (hg:Good' (.sl (.int .u8)) c):laws_FnStatParts c = some true:=statParts_law c (stat_bytes hg)
end Go.E

/- A part of the proof: GStatA. -/
import Derived.Test.YtjpmjigganoioaaGreatDoorED
import Derived.Test.YtjpmjigganoioaaGreatDoorProg
import Derived.Test.YtjpmjigganoioaaGreatDoorShelf
set_option linter.unusedVariables false
noncomputable section
namespace Go.E
open Go
theorem less_irrefl':∀ a:List UInt8,Op.bytesLess a a = false
 | []=>rfl
 | a :: r=>by unfold Op.bytesLess; simp [less_irrefl' r]
abbrev Key:=ByteArray × ByteArray
abbrev Pst:=List (Int × List Int)
abbrev Ent:=ByteArray × (ByteArray × Pst)
def kOf (e:Ent):Key:=(e.1,e.2.1)
def mkE (k:Key) (p:Pst):Ent:=(k.1,(k.2,p))
theorem Zhn (k:Key) (p:Pst):kOf (mkE k p) = k:=rfl
theorem mkE_kOf (e:Ent):mkE (kOf e) e.2.2 = e:=rfl
def addP (ps:Pst) (doc a:Int):Pst:=match ps.getLast? with
 | some x=>if x.1 = doc then ps.dropLast ++ [(doc,x.2 ++ [a])] else ps ++ [(doc,[a])]
 | none=>[(doc,[a])]
theorem addP_ne (ps:Pst) (doc a:Int):addP ps doc a ≠ []:=by
 unfold addP
 split
 · split <;> simp
 · simp
section
variable (lt:Key -> Key -> Bool)
def insE (l:List Ent) (k:Key) (doc a:Int):List Ent :=
 let j:=(l.takeWhile (fun e=>lt (kOf e) k)).length
 match l[j]? with
 | some e=>if kOf e = k then l.set j (mkE k (addP e.2.2 doc a)) else l.take j ++ mkE k [(doc,[a])] :: l.drop j
 | none=>l ++ [mkE k [(doc,[a])]]
end
structure OrdK (lt:Key -> Key -> Bool):Prop where
 irrefl:∀ a,lt a a = false
 trans:∀ a b c,lt a b = true -> lt b c = true -> lt a c = true
 total:∀ a b,a ≠ b -> lt a b = false -> lt b a = true
def RelME (lt:Key -> Key -> Bool) (m:List (Key × Pst)) (l:List Ent):Prop :=
 l.Perm (m.map fun p=>mkE p.1 p.2) /\ l.Pairwise (fun a b=>lt (kOf a) (kOf b) = true) /\ ∀ e ∈ l,e.2.2 ≠ []
theorem eqDr_key (a b:Key):eqDr (.pr .str .str) a b = true ↔ a = b:=by
 have h:eqDr (.pr .str .str) a b = (eqS a.1 b.1 && eqS a.2 b.2):=rfl
 rw [h]
 unfold eqS
 simp only [Bool.and_eq_true,decide_eq_true_eq]
 exact ⟨fun ⟨h1,h2⟩=>Prod.ext h1 h2,fun e=>by subst e; exact ⟨rfl,rfl⟩⟩
theorem map_at {τ:Ty}:∀ (m:List (Key × D τ)) (k:Key) (z y:D τ),((∀ p ∈ m,p.1 ≠ k) /\ getMr (κ:=.pr .str .str) (τ:=τ) m k z = z /\ putMr (κ:=.pr .str .str) (τ:=τ) m k y = m ++ [(k,y)]) ∨
  ∃ m1 x m2,m = m1 ++ (k,x) :: m2 /\ (∀ p ∈ m1,p.1 ≠ k) /\ getMr (κ:=.pr .str .str) (τ:=τ) m k z = x /\ putMr (κ:=.pr .str .str) (τ:=τ) m k y = m1 ++ (k,y) :: m2
 | [],k,z,y=>.inl ⟨fun p h=>(nomatch h),rfl,rfl⟩
 | p :: r,k,z,y=>by
   have g:getMr (κ:=.pr .str .str) (τ:=τ) (p :: r) k z = if eqDr (.pr .str .str) p.1 k = true then p.2 else getMr (κ:=.pr .str .str) (τ:=τ) r k z:=rfl
   have u:putMr (κ:=.pr .str .str) (τ:=τ) (p :: r) k y = if eqDr (.pr .str .str) p.1 k = true then (k,y) :: r else p :: putMr (κ:=.pr .str .str) (τ:=τ) r k y:=rfl
   by_cases h:p.1 = k
   · refine .inr ⟨[],p.2,r,?_,fun q h=>(nomatch h),?_,?_⟩
     · rw [← h]; rfl
     · rw [g,if_pos ((eqDr_key _ _).2 h)]
     · rw [u,if_pos ((eqDr_key _ _).2 h)]; rfl
   · have hn:¬ eqDr (.pr .str .str) p.1 k = true:=fun e=>h ((eqDr_key _ _).1 e)
     rw [g,u,if_neg hn,if_neg hn]
     rcases map_at r k z y with ⟨h1,h2,h3⟩ | ⟨m1,x,m2,h0,h1,h2,h3⟩
     · exact .inl ⟨fun q hq=>by rcases List.mem_cons.1 hq with e | e; exact e ▸ h; exact h1 q e,h2,by rw [h3]; rfl⟩
     · refine .inr ⟨p :: m1,x,m2,by rw [h0]; rfl,fun q hq=>by rcases List.mem_cons.1 hq with e | e; exact e ▸ h; exact h1 q e,h2,by rw [h3]; rfl⟩
theorem tw_split {α:Type} (p:α -> Bool) (l:List α):(l.take (l.takeWhile p).length = l.takeWhile p) /\ l.drop (l.takeWhile p).length = l.dropWhile p:=by
 have h:l.takeWhile p ++ l.dropWhile p = l:=List.takeWhile_append_dropWhile
 constructor
 · conv=>lhs; rw [← h]
   rw [List.take_left']; simp
 · conv=>lhs; rw [← h]
   rw [List.drop_left']; simp
theorem tw_mem {α:Type} {p:α -> Bool}:∀ {l:List α} {x:α},x ∈ l.takeWhile p -> p x = true
 | [],_,h=>by simp at h
 | y :: r,x,h=>by
   rw [List.takeWhile_cons] at h
   split at h
   · rcases List.mem_cons.1 h with e | e
     · rw [e]; assumption
     · exact tw_mem e
   · simp at h
theorem step_rel {lt:Key -> Key -> Bool} (O:OrdK lt) {m:List (Key × Pst)} {l:List Ent} (h:RelME lt m l) (k:Key) (doc a:Int) :
  RelME lt (putMr (κ:=.pr .str .str) (τ:=.sl (.pr (.int .i64) (.sl (.int .i64)))) m k (addP (getMr (κ:=.pr .str .str) (τ:=.sl (.pr (.int .i64) (.sl (.int .i64)))) m k []) doc a)) (insE lt l k doc a):=by
 obtain ⟨hp,hs,hn⟩:=h
 obtain ⟨t1,t2⟩:=tw_split (fun e=>lt (kOf e) k) l
 have hlk:l[(l.takeWhile (fun e=>lt (kOf e) k)).length]? = (l.dropWhile (fun e=>lt (kOf e) k)).head?:=by
  rw [← t2,List.head?_drop]
 have hall:∀ e ∈ l.takeWhile (fun e=>lt (kOf e) k),lt (kOf e) k = true:=fun e he=>tw_mem (p:=fun e=>lt (kOf e) k) he
 have hl:l = l.takeWhile (fun e=>lt (kOf e) k) ++ l.dropWhile (fun e=>lt (kOf e) k):=List.takeWhile_append_dropWhile.symm
 have hhd:∀ e,(l.dropWhile (fun e=>lt (kOf e) k)).head? = some e -> lt (kOf e) k = false:=fun e he=>by
  have:=List.head?_dropWhile_not (fun e=>lt (kOf e) k) l
  rw [he] at this; simpa using this
 unfold insE
 simp only [hlk]
 generalize hA:l.takeWhile (fun e=>lt (kOf e) k) = A at *
 generalize hB:l.dropWhile (fun e=>lt (kOf e) k) = B at *
 cases B with
 | nil =>
   simp only [List.head?_nil]
   rw [List.append_nil] at hl
   have hnk:∀ p ∈ m,p.1 ≠ k:=fun p hpm e=>by
    have hm:mkE p.1 p.2 ∈ l:=hp.symm.subset (List.mem_map.2 ⟨p,hpm,rfl⟩)
    rw [hl] at hm
    have:=hall _ hm
    rw [Zhn,e,O.irrefl] at this; cases this
   rcases map_at (τ:=.sl (.pr (.int .i64) (.sl (.int .i64)))) m k [] (addP (getMr (κ:=.pr .str .str) (τ:=.sl (.pr (.int .i64) (.sl (.int .i64)))) m k []) doc a) with ⟨_,h2,h3⟩ | ⟨m1,x,m2,h0,_⟩
   · rw [h3,h2]
     refine ⟨?_,?_,?_⟩
     · rw [List.map_append]; exact hp.append (List.Perm.refl _)
     · rw [List.pairwise_append]
       refine ⟨hs,by simp,fun x hx y hy=>?_⟩
       rw [List.mem_singleton.1 hy,Zhn]
       exact hall x (hl ▸ hx)
     · intro e he
       rcases List.mem_append.1 he with h | h
       · exact hn e h
       · rw [List.mem_singleton.1 h]; exact List.cons_ne_nil _ _
   · exact absurd rfl (hnk (k,x) (by rw [h0]; simp))
 | cons e B =>
   simp only [List.head?_cons]
   have hek:=hhd e rfl
   rw [hl,List.pairwise_append] at hs
   obtain ⟨s1,s2,s3⟩:=hs
   obtain ⟨s4,s5⟩:=List.pairwise_cons.1 s2
   by_cases hk:kOf e = k
   · rw [if_pos hk]
     have hset:l.set A.length (mkE k (addP e.2.2 doc a)) = A ++ mkE k (addP e.2.2 doc a) :: B:=by
      rw [hl,List.set_append_right _ _ (Nat.le_refl _)]; simp
     rw [hset]
     have hem:e ∈ l:=by rw [hl]; simp
     obtain ⟨p,hpm,hpe⟩:=List.mem_map.1 (hp.subset hem)
     have hpk:p.1 = k:=by rw [← hk,← hpe]; rfl
     rcases map_at (τ:=.sl (.pr (.int .i64) (.sl (.int .i64)))) m k [] (addP (getMr (κ:=.pr .str .str) (τ:=.sl (.pr (.int .i64) (.sl (.int .i64)))) m k []) doc a) with ⟨h1,_⟩ | ⟨m1,x,m2,h0,h1,h2,h3⟩
     · exact absurd hpk (h1 p hpm)
     ·
      have hx:mkE k x = e:=by
       have hm:mkE k x ∈ l:=hp.symm.subset (by rw [h0]; simp)
       rw [hl] at hm
       rcases List.mem_append.1 hm with h | h
       · have:=hall _ h
         rw [Zhn,O.irrefl] at this; cases this
       · rcases List.mem_cons.1 h with h | h
         · exact h
         · have:=s4 _ h
           rw [hk,Zhn,O.irrefl] at this; cases this
      have hx2:x = e.2.2:=by rw [← hx]; rfl
      rw [h3,h2,hx2]
      refine ⟨?_,?_,?_⟩
      · have hq:(A ++ e :: B).Perm ((m1 ++ (k,x) :: m2).map fun p=>mkE p.1 p.2):=by rw [← hl,← h0]; exact hp
        rw [List.map_append,List.map_cons] at hq ⊢
        have hq1:(A ++ B).Perm (m1.map (fun p=>mkE p.1 p.2) ++ m2.map (fun p=>mkE p.1 p.2)):=by
         have h4:=(List.perm_middle (a:=e) (l₁:=A) (l₂:=B)).symm.trans (hq.trans List.perm_middle)
         simp only at h4
         rw [hx] at h4
         exact (List.perm_cons e).1 h4
        exact List.perm_middle.trans (((List.perm_cons _).2 hq1).trans List.perm_middle.symm)
      · rw [List.pairwise_append]
        refine ⟨s1,List.pairwise_cons.2 ⟨fun y hy=>?_,s5⟩,fun x hx y hy=>?_⟩
        · rw [Zhn,← hk]; exact s4 y hy
        · rcases List.mem_cons.1 hy with h | h
          · rw [h,Zhn]; exact hall x hx
          · exact s3 x hx y (List.mem_cons_of_mem _ h)
      · intro y hy
        rcases List.mem_append.1 hy with h | h
        · exact hn y (by rw [hl]; exact List.mem_append_left _ h)
        · rcases List.mem_cons.1 h with h | h
          · rw [h]; exact addP_ne _ _ _
          · exact hn y (by rw [hl]; exact List.mem_append_right _ (List.mem_cons_of_mem _ h))
   · rw [if_neg hk,t1,t2]
     have hgt:lt k (kOf e) = true:=O.total _ _ hk hek
     have hnk:∀ p ∈ m,p.1 ≠ k:=fun p hpm ee=>by
      have hm:mkE p.1 p.2 ∈ l:=hp.symm.subset (List.mem_map.2 ⟨p,hpm,rfl⟩)
      rw [hl] at hm
      rcases List.mem_append.1 hm with h | h
      · have:=hall _ h
        rw [Zhn,ee,O.irrefl] at this; cases this
      · rcases List.mem_cons.1 h with h | h
        · exact hk (by rw [← h,Zhn]; exact ee)
        · have:=O.trans _ _ _ hgt (s4 _ h)
          rw [Zhn,ee,O.irrefl] at this; cases this
     rcases map_at (τ:=.sl (.pr (.int .i64) (.sl (.int .i64)))) m k [] (addP (getMr (κ:=.pr .str .str) (τ:=.sl (.pr (.int .i64) (.sl (.int .i64)))) m k []) doc a) with ⟨_,h2,h3⟩ | ⟨m1,x,m2,h0,_⟩
     · rw [h3,h2]
       refine ⟨?_,?_,?_⟩
       · rw [List.map_append,List.map_singleton,show addP [] doc a = [(doc,[a])] from rfl]
         have hq:(A ++ e :: B).Perm (m.map fun p=>mkE p.1 p.2):=by rw [← hl]; exact hp
         have hc:(mkE k [(doc,[a])] :: m.map fun p=>mkE p.1 p.2).Perm ((m.map fun p=>mkE p.1 p.2) ++ [mkE k [(doc,[a])]]):=List.perm_append_comm (l₁:=[mkE k [(doc,[a])]])
         exact List.perm_middle.trans (((List.perm_cons _).2 hq).trans hc)
       · rw [List.pairwise_append]
         refine ⟨s1,List.pairwise_cons.2 ⟨fun y hy=>?_,s2⟩,fun x hx y hy=>?_⟩
         · rw [Zhn]
           rcases List.mem_cons.1 hy with h | h
           · rw [h]; exact hgt
           · exact O.trans _ _ _ hgt (s4 y h)
         · rcases List.mem_cons.1 hy with h | h
           · rw [h,Zhn]; exact hall x hx
           · exact s3 x hx y h
       · intro y hy
         rcases List.mem_append.1 hy with h | h
         · exact hn y (by rw [hl]; exact List.mem_append_left _ h)
         · rcases List.mem_cons.1 h with h | h
           · rw [h]; exact List.cons_ne_nil _ _
           · exact hn y (by rw [hl]; exact List.mem_append_right _ h)
     · exact absurd rfl (hnk (k,x) (by rw [h0]; simp))
end Go.E
namespace Go.E
open Go Go.Sort Go.Proofs
theorem less_irrefl:∀ a:List UInt8,Op.bytesLess a a = false
 | []=>rfl
 | x :: a=>by
   have:=less_irrefl a
   simp [Op.bytesLess,this]
theorem less_trans:∀ a b c:List UInt8,Op.bytesLess a b = true -> Op.bytesLess b c = true -> Op.bytesLess a c = true
 | _,[],_,h,_=>by simp [Op.bytesLess] at h
 | _,_ :: _,[],_,h=>by simp [Op.bytesLess] at h
 | [],_ :: _,_ :: _,_,_=>rfl
 | x :: a,y :: b,z :: c,h,k=>by
   simp only [Op.bytesLess,Bool.or_eq_true,decide_eq_true_eq,Bool.and_eq_true,beq_iff_eq] at h k ⊢
   rcases h with h | ⟨rfl,h⟩
   · rcases k with k | ⟨rfl,k⟩
     · exact .inl (UInt8.lt_trans h k)
     · exact .inl h
   · rcases k with k | ⟨rfl,k⟩
     · exact .inl k
     · exact .inr ⟨rfl,less_trans a b c h k⟩
theorem Zia (a:ByteArray):ltS a a = false:=less_irrefl _
theorem ltS_trans {a b c:ByteArray} (h:ltS a b = true) (k:ltS b c = true):ltS a c = true:=less_trans _ _ _ h k
theorem ltS_asym {a b:ByteArray} (h:ltS a b = true):ltS b a = false:=by
 cases hb:ltS b a with
 | false=>rfl
 | true=>have:=ltS_trans h hb; rw [Zia] at this; cases this
theorem ltS_total (a b:ByteArray):(ltS a b || eqS a b) = !ltS b a:=by
 have:=Zho a.toList b.toList
 rw [eqS_eq] at this
 exact this
theorem ltS_ne {a b:ByteArray} (h:a ≠ b) (k:ltS a b = false):ltS b a = true:=by
 have:=ltS_total a b
 rw [k] at this
 have e:eqS a b = false:=decide_eq_false h
 rw [e] at this
 simpa using this.symm
theorem ltS_neq {a b:ByteArray} (h:ltS a b = true):a ≠ b:=fun e=>by rw [e,Zia] at h; cases h
def kLt (a b:Key):Bool:=ltS a.1 b.1 || (eqS a.1 b.1 && ltS a.2 b.2)
theorem kLt_iff (a b:Key):kLt a b = true ↔ ltS a.1 b.1 = true ∨ (a.1 = b.1 /\ ltS a.2 b.2 = true):=by
 unfold kLt eqS; simp
theorem kLt_ord:OrdK kLt where
 irrefl a:=by
  cases h:kLt a a with
  | false=>rfl
  | true=>rcases (kLt_iff _ _).1 h with h | ⟨_,h⟩ <;> rw [Zia] at h <;> cases h
 trans a b c h k:=by
  rw [kLt_iff] at h k ⊢
  rcases h with h | ⟨e,h⟩ <;> rcases k with k | ⟨f,k⟩
  · exact .inl (ltS_trans h k)
  · exact .inl (f ▸ h)
  · exact .inl (e ▸ k)
  · exact .inr ⟨e.trans f,ltS_trans h k⟩
 total a b hne h:=by
  rw [kLt_iff]
  have h1:¬ (ltS a.1 b.1 = true ∨ (a.1 = b.1 /\ ltS a.2 b.2 = true)):=fun e=>by rw [(kLt_iff a b).2 e] at h; cases h
  by_cases e:a.1 = b.1
  · have h2:a.2 ≠ b.2:=fun f=>hne (Prod.ext e f)
    exact .inr ⟨e.symm,ltS_ne h2 (by simpa using fun q=>h1 (.inr ⟨e,q⟩))⟩
  · exact .inl (ltS_ne e (by simpa using fun q=>h1 (.inl q)))
def cmpV (a b:ByteArray):Int:=if ltS a b = true then -1 else if ltS b a = true then 1 else 0
theorem cmpV_lt (a b:ByteArray):cmpV a b < 0 ↔ ltS a b = true:=by
 unfold cmpV; split
 · rename_i h; simp [h]
 · rename_i h; split <;> simp [h]
theorem cmpV_eq (a b:ByteArray):cmpV a b = 0 ↔ a = b:=by
 unfold cmpV
 constructor
 · intro h
   split at h
   · omega
   · split at h
     · omega
     · rename_i h1 h2
       false_or_by_contra
       rename_i hne
       exact h2 (ltS_ne hne (by simpa using h1))
 · rintro rfl; simp [Zia]
def cfE (a b:Ent):Int:=if cmpV a.1 b.1 = 0 then cmpV a.2.1 b.2.1 else cmpV a.1 b.1
theorem cfE_lt (a b:Ent):cfE a b < 0 ↔ kLt (kOf a) (kOf b) = true:=by
 rw [kLt_iff]
 unfold cfE kOf
 split
 · rename_i h
   have h':=(cmpV_eq _ _).1 h
   rw [cmpV_lt]
   simp [h',Zia]
 · rename_i h
   have h':a.1 ≠ b.1:=fun e=>h ((cmpV_eq _ _).2 e)
   rw [cmpV_lt]
   simp [h']
theorem ltOf_cfE (a b:Ent):ltOf cfE a b = kLt (kOf a) (kOf b):=by
 unfold ltOf
 rw [Bool.eq_iff_iff,decide_eq_true_eq]
 exact cfE_lt a b
theorem swo_cfE:SWO (ltOf cfE) where
 irrefl x:=by rw [ltOf_cfE]; exact kLt_ord.irrefl _
 trans x y z h k:=by rw [ltOf_cfE] at *; exact kLt_ord.trans _ _ _ h k
 ntrans x y z h k:=by
  rw [ltOf_cfE] at *
  cases hh:kLt (kOf x) (kOf z) with
  | false=>rfl
  | true =>
    by_cases e:kOf x = kOf y
    · rw [e] at hh; rw [hh] at k; cases k
    · have:=kLt_ord.trans _ _ _ (kLt_ord.total _ _ e h) hh
      rw [this] at k; cases k
theorem sort_entries {m:List (Key × Pst)} {l o:List Ent} (h:RelME kLt m l) (ho:o.Perm (m.map fun p=>mkE p.1 p.2)) (hl:o.length < 4611686018427387904):sortC cfE o = some l :=
 sortC_eq swo_cfE hl (h.1.trans ho.symm) (h.2.1.imp fun {a b} hab=>(cfE_lt a b).2 hab)
end Go.E
namespace Go.E
open Go Go.Proofs
abbrev vi (x:Int):V:=.val (.int .i64) x
abbrev vs (x:ByteArray):V:=.val .str x
abbrev zt0:Type:=((List Int) × Int)
abbrev zt1:Type:=Option ByteArray
abbrev zt2:Type:=Int × (List Int)
abbrev zt3:Type:=ByteArray × Bool
abbrev zt4:Ty:=.pr (.str) (.str)
abbrev zt5:Type:=Int × (Int × Int)
abbrev zt6:Ty:=Ty.pr Ty.str Ty.str
abbrev zt7:Type:=Option (Int × Bool)
abbrev zt8:Ty:=Ty.int Go.IntKind.u8
abbrev zt9:Ty:=Ty.int .i64
abbrev zt10:Type:=ByteArray × ByteArray
abbrev zt11:Ty:=.sl zt4
abbrev zt12:Type:=ByteArray × (Int × Int)
abbrev zt13:Type:=Option (List ByteArray)
abbrev zt14:Type:=List zt2
abbrev zt15:Type:=((List ByteArray) × Bool)
abbrev zt16:Type:=Int × zt0
abbrev zt17:Type:=Option zt3
abbrev zt18:Type:=Int × zt5
abbrev zt19:Ty:=.pr (.int .i64) (.int .i64)
abbrev zt20:Ty:=Ty.sl zt6
abbrev zt21:Ty:=Ty.sl zt8
abbrev zt22:Type:=List zt10
abbrev zt23:Ty:=Ty.sl zt9
abbrev zt24:Type:=List zt12
abbrev zt25:Type:=ByteArray × zt0
abbrev zt26:Type:=((List Int) × zt0)
abbrev zt27:Ty:=.pr (.sl (.int .u8)) (.int .i64)
abbrev zt28:Type:=Option zt12
abbrev zt29:Type:=Option zt15
abbrev zt30:Ty:=.pr (.int .i64) (.sl (.int .i64))
abbrev zt31:Type:=Option zt18
abbrev zt32:Ty:=.pr (.str) zt11
abbrev zt33:Type:=ByteArray × zt14
abbrev zt34:Ty:=.sl zt30
abbrev zt35:Type:=Option zt24
abbrev zt36:Type:=Option zt25
abbrev zt37:Ty:=.pr (.str) zt19
abbrev zt38:Type:=Option zt26
abbrev zt39:Type:=ByteArray × zt22
abbrev zt40:Ty:=Ty.pr Ty.str zt20
abbrev zt41:Ty:=.pr (.int .i64) zt19
abbrev zt42:Ty:=.sl zt37
abbrev zt43:Type:=List zt39
abbrev zt44:Type:=Int × zt39
abbrev zt45:Type:=ByteArray × zt33
abbrev zt46:Type:=zt10 × zt14
abbrev zt47:Ty:=.pr (.str) zt34
abbrev zt48:Type:=zt24 × zt0
abbrev zt49:Ty:=Ty.pr zt9 zt9
abbrev zt50:Ty:=.pr (.int .i64) zt32
abbrev zt51:Type:=List zt44
abbrev zt52:Type:=List zt45
abbrev zt53:Type:=List zt46
abbrev zt54:Type:=Option zt43
abbrev zt55:Ty:=.sl zt50
abbrev zt56:Ty:=Ty.pr zt9 zt23
abbrev zt57:Type:=Option zt48
abbrev zt58:Ty:=.pr (.int .i64) zt41
abbrev zt59:Ty:=.pr (.str) zt47
abbrev zt60:Type:=zt39 × zt0
abbrev zt61:Type:=Option zt51
abbrev zt62:Type:=zt52 × Int
abbrev zt63:Type:=Option zt52
abbrev zt64:Ty:=Ty.pr Ty.str zt49
abbrev zt65:Ty:=Ty.sl zt56
abbrev zt66:Ty:=.sl zt59
abbrev zt67:Type:=Option zt60
abbrev zt68:Ty:=Ty.pr zt9 zt40
abbrev zt69:Ty:=Ty.sl zt64
abbrev zt70:Ty:=Ty.sl zt68
abbrev zt71:Ty:=Ty.pr Ty.str zt65
abbrev zt72:Ty:=.pr zt66 (.int .i64)
abbrev zt73:Ty:=Ty.pr Ty.str zt71
abbrev zt74:Ty:=Ty.sl zt73
abbrev zt75:Type:=zt51 × zt62
abbrev zt76:Ty:=.pr zt55 zt72
abbrev zt77:Type:=zt24 × zt75
abbrev zt78:Type:=Option zt77
abbrev zt79:Type:=Option (zt77 × zt0)
abbrev zt80:Type:=Option (zt77 × ((List Int) × ByteArray))
abbrev zt81:Ty:=.pr zt42 zt76
theorem Zdn {α β:Type} {f:α -> β} {s:α} {r:β} (h:f s = r):hide f s = r:=(congrFun (hide_eq f) s).trans h
noncomputable abbrev FJ (E:Env) (An:Ann) (c:Code) (ps:List PT) (ros:List (ResultVar × RO)) (p:List Nat) (st:St):=hide (fun s=>run E An (Zis c p) s (Zgf E An c p (retK E ps ros))) st
noncomputable abbrev FF (E:Env) (An:Ann) (c:Code) (ps:List PT) (ros:List (ResultVar × RO)) (p:List Nat) (st:St):=hide (fun s=>orC E An (Zis c p) s (Zgf E An c p (retK E ps ros))) st
noncomputable abbrev FL (E:Env) (An:Ann) (c:Code) (ps:List PT) (ros:List (ResultVar × RO)) (p:List Nat) (st:St):=loopR An (Zis c (p ++ [0])) (run E An (Zis c (p ++ [0]))) (Zgf E An c p (retK E ps ros)) st
def tlist:List (Nat × TL):=[
 (3,{ k:=.int .i64,ty:=.int .i64,zero:=[.val (.int .i64) (0:Int)] }),
 (4,{ k:=.bool,ty:=.bool,zero:=[.val .bool false] }),
 (5,{ k:=.int .u8,ty:=.int .u8,zero:=[.val (.int .u8) (0:Int)] }),
 (9,{ k:=.str,ty:=.str,zero:=[.val .str ⟨#[]⟩] }),
 (22,{ k:=.sl 5,ty:=.sl (.int .u8),zero:=[.nil] }),
 (23,{ k:=.sl 95,ty:=.sl zt37,zero:=[.nil] }),
 (24,{ k:=.sl 40,ty:=.sl zt50,zero:=[.nil] }),
 (25,{ k:=.sl 140,ty:=.sl zt59,zero:=[.nil] }),
 (27,{ k:=.st [(0,23),(1,24),(2,25),(3,3)],ty:=.pr zt42 zt76,zero:=[.nil,.nil,.nil,.val (.int .i64) (0:Int)] }),
 (28,{ k:=.sl 3,ty:=.sl (.int .i64),zero:=[.nil] }),
 (32,{ k:=.st [(0,3),(1,3),(2,3),(3,3)],ty:=.pr (.int .i64) zt41,zero:=[.val (.int .i64) (0:Int),.val (.int .i64) (0:Int),.val (.int .i64) (0:Int),.val (.int .i64) (0:Int)] }),
 (36,{ k:=.sl 134,ty:=.sl zt4,zero:=[.nil] }),
 (38,{ k:=.st [(0,9),(1,36)],ty:=.pr (.str) zt11,zero:=[.val .str ⟨#[]⟩,.nil] }),
 (40,{ k:=.st [(0,3),(1,38)],ty:=.pr (.int .i64) zt32,zero:=[.val (.int .i64) (0:Int),.val .str ⟨#[]⟩,.nil] }),
 (73,{ k:=.sl 9,ty:=.sl (.str),zero:=[.nil] }),
 (80,{ k:=.ptr 126,ty:=.bool,zero:=[.nilp] }),
 (95,{ k:=.st [(0,9),(1,3),(2,3)],ty:=.pr (.str) zt19,zero:=[.val .str ⟨#[]⟩,.val (.int .i64) (0:Int),.val (.int .i64) (0:Int)] }),
 (114,{ k:=.sl 38,ty:=.sl zt32,zero:=[.nil] }),
 (126,{ k:=.st [(0,22),(1,3)],ty:=.pr (.sl (.int .u8)) (.int .i64),zero:=[.nil,.val (.int .i64) (0:Int)] }),
 (134,{ k:=.st [(0,9),(1,9)],ty:=.pr (.str) (.str),zero:=[.val .str ⟨#[]⟩,.val .str ⟨#[]⟩] }),
 (138,{ k:=.sl 142,ty:=.sl zt30,zero:=[.nil] }),
 (140,{ k:=.st [(0,9),(1,9),(2,138)],ty:=.pr (.str) zt47,zero:=[.val .str ⟨#[]⟩,.val .str ⟨#[]⟩,.nil] }),
 (142,{ k:=.st [(0,3),(1,28)],ty:=.pr (.int .i64) (.sl (.int .i64)),zero:=[.val (.int .i64) (0:Int),.nil] }),
 (167,{ k:=.other,ty:=.bool,zero:=[.undef] }),
 (195,{ k:=.err,ty:=.err,zero:=[.val .err false] }),
 (219,{ k:=.sl 223,ty:=.sl zt37,zero:=[.nil] }),
 (223,{ k:=.st [(0,9),(1,3),(2,3)],ty:=.pr (.str) zt19,zero:=[.val .str ⟨#[]⟩,.val (.int .i64) (0:Int),.val (.int .i64) (0:Int)] }),
 (241,{ k:=.other,ty:=.bool,zero:=[.undef] }),
 (243,{ k:=.other,ty:=.bool,zero:=[.undef] }),
 (244,{ k:=.mp 246 138,ty:=.bool,zero:=[.undef] }),
 (246,{ k:=.st [(0,9),(1,9)],ty:=.pr (.str) (.str),zero:=[.val .str ⟨#[]⟩,.val .str ⟨#[]⟩] }),
 (248,{ k:=.other,ty:=.bool,zero:=[.undef] })]
theorem lay_ok:(tlist.all fun p=>layOk Tryz.prog tlist p.1 p.2) = true:=by kernel_rfl
theorem mix_ok:Tryz.prog.follows .mixedOrders = true:=by kernel_rfl
theorem satY {E:Env} (hE:EnvC Tryz.prog E) {g:Nat} {fn:Func} {c:Code} {An:Ann} {ps:List PT} {ros:List (ResultVar × RO)} (h1:Tryz.prog.funcs[g]? = some fn)
  (h:((fn.name == "runtime.NumGoroutine"),fn.body,fn.results,Zhx An fn.ntmps c,An.kp,ps.length.ble fn.ntmps) = (false,some c,(ros.map (·.1)).toArray,true,keys 0 ps,true)):SatC Tryz.prog E.G g (entry ps ros (fnR E An c ps ros)):=by
 simp only [Prod.mk.injEq] at h
 exact fn_sat hE mix_ok ⟨h1,h.1,h.2.1,h.2.2.1,h.2.2.2.1,h.2.2.2.2.1,Nat.le_of_ble_eq_true h.2.2.2.2.2⟩
theorem cns {P:Program} {L:List (Nat × TL)} {G:List (Nat × List V)} {C:List (Nat × Zda)} {g:Nat} {ps:List PT} {ros:List (ResultVar × RO)} {f:D (Zdt (ps.map PT.ty)) -> Option (D (Zdt (ros.map (·.2.ty) ++ Zdg ps)))} (h:EnvC P { L:=L,G:=G,C:=C }) (hs:SatC P G g (entry ps ros f)):EnvC P { L:=L,G:=G,C:=(g,entry ps ros f) :: C }:=.cons h hs (entry_nat _ _ _)
def glist:List (Nat × List V):=[(0,[.val .err true]),(1,[.val .err true]),(2,[.val (.sl .str) [⟨#[97]⟩,⟨#[97,110]⟩,⟨#[97,110,100]⟩,⟨#[111,102]⟩,⟨#[116,104,101]⟩,⟨#[116,111]⟩]]),(4,[.val (.int .u64) (1:Int),.val (.int .u64) (10:Int),.val (.int .u64) (100:Int),.val (.int .u64) (1000:Int),.val (.int .u64) (10000:Int),.val (.int .u64) (100000:Int),.val (.int .u64) (1000000:Int),.val (.int .u64) (10000000:Int),.val (.int .u64) (100000000:Int),.val (.int .u64) (1000000000:Int),.val (.int .u64) (10000000000:Int),.val (.int .u64) (100000000000:Int),.val (.int .u64) (1000000000000:Int),.val (.int .u64) (10000000000000:Int),.val (.int .u64) (100000000000000:Int),.val (.int .u64) (1000000000000000:Int),.val (.int .u64) (10000000000000000:Int),.val (.int .u64) (100000000000000000:Int),.val (.int .u64) (1000000000000000000:Int),.val (.int .u64) (10000000000000000000:Int)])]
theorem Zbh:(glist.all fun p=>p.2.all Zep) = true:=by kernel_rfl
def Zdw:=cntB
def Zdx:=idxB
def Zeb (x:ByteArray × ByteArray):Option Int:=none
theorem Zdw.sat:SatC Tryz.prog glist 262 (entry [.val .str,.val (.int .u8)] [(.tmp 0,.val (.int .i64))] Zdw):=satC_G (countString_sat (fn:=Tryz.f262) (by kernel_rfl) (by kernel_rfl) (by kernel_rfl) (by kernel_rfl) (by kernel_rfl))
theorem Zdx.sat:SatC Tryz.prog glist 307 (entry [.val .str,.val (.int .u8)] [(.tmp 0,.val (.int .i64))] Zdx):=satC_G (indexByteString_sat (fn:=Tryz.f307) (by kernel_rfl) (by kernel_rfl) (by kernel_rfl) (by kernel_rfl) (by kernel_rfl))
theorem Zeb.sat:SatC Tryz.prog glist 292 (entry [.val .str,.val .str] [(.tmp 0,.val (.int .i64))] Zeb):=fun ρ args K r h=>by
 unfold entry at h; split at h
 · cases h
 · cases h
def Zf3:=atoiC
def strconv_Itoa:=itoaC
theorem strconv_g4:look glist 4 = some (Lib.pow10Tab.map fun z=>.val (.int .u64) z):=by kernel_rfl
theorem strconv_m4:Tryz.prog.globalNamed "internal/strconv.uint64pow10" = some 4:=Tryz.laysM171.m17
theorem strconv_Itoa.sat:SatC Tryz.prog glist 159 (entry [.val (.int .i64)] [(.tmp 0,.val .str)] strconv_Itoa):=by
 have h:=itoa_sat (G:=glist) Tryz.laysM171 strconv_g4 strconv_m4
 exact h
theorem Zf3.sat:SatC Tryz.prog glist 158 (entry [.val .str] [(.tmp 0,.val (.int .i64)),(.tmp 0,.val .err)] Zf3):=by
 have h:=atoi_sat (G:=glist) Tryz.laysC172 (by kernel_rfl) (by kernel_rfl)
 exact h
def Zd4 (x:D (Zdt (([.val (.int .i64)]:List PT).map PT.ty))):Option (D (Zdt (([.val (.int .i64)]:List RO).map RO.ty ++ Zdg [.val (.int .i64)]))):=none
noncomputable abbrev Zd4.en:Zda:=entry [.val (.int .i64)] [(.tmp 0,.val (.int .i64))] Zd4
theorem Zd4.sat:SatC Tryz.prog glist 293 (Zd4.en):=satC_none (fun _=>rfl)
def Zdc (x:D (Zdt (([.val (.str),.val (.str)]:List PT).map PT.ty))):Option (D (Zdt (([.val (.int .i64)]:List RO).map RO.ty ++ Zdg [.val (.str),.val (.str)]))):=none
noncomputable abbrev Zdc.en:Zda:=entry [.val (.str),.val (.str)] [(.tmp 0,.val (.int .i64))] Zdc
theorem Zdc.sat:SatC Tryz.prog glist 294 (Zdc.en):=satC_none (fun _=>rfl)
def Zdi (x:D (Zdt (([.val (.str)]:List PT).map PT.ty))):Option (D (Zdt (([.val (.int .i64)]:List RO).map RO.ty ++ Zdg [.val (.str)]))):=none
noncomputable abbrev Zdi.en:Zda:=entry [.val (.str)] [(.tmp 0,.val (.int .i64))] Zdi
theorem Zdi.sat:SatC Tryz.prog glist 260 (Zdi.en):=satC_none (fun _=>rfl)
def Zet (x:D (Zdt (([.val (.str),.val (.int .i64)]:List PT).map PT.ty))):Option (D (Zdt (([.own (.str)]:List RO).map RO.ty ++ Zdg [.val (.str),.val (.int .i64)]))):=none
noncomputable abbrev Zet.en:Zda:=entry [.val (.str),.val (.int .i64)] [(.tmp 0,.own (.str))] Zet
theorem Zet.sat:SatC Tryz.prog glist 223 (Zet.en):=satC_none (fun _=>rfl)
abbrev Zcs.ps:List PT:=[.val (.sl (.int .u8))]
abbrev Zcs.ros:List (ResultVar × RO):=[(.tmp 2,.st zt27)]
def Zcs.env:Env:={ L:=tlist,G:=glist,C:=[] }
def Zcs.an:Ann:={ lp:=[],jn:=[(3,[0])],sc:=[],kp:=[] }
def Zcs.code:Code:=Tryz.f43.body.getD .skip
def Zcs (x:(List Int)):(Option zt0):=fnR Zcs.env Zcs.an Zcs.code Zcs.ps Zcs.ros x
noncomputable abbrev Zcs.en:Zda:=entry Zcs.ps Zcs.ros Zcs
theorem Zcs.envC:EnvC Tryz.prog Zcs.env:=(.nilG lay_ok Zbh)
theorem Zcs.sat:SatC Tryz.prog glist 43 Zcs.en:=satY (fn:=Tryz.f43) (c:=Zcs.code) (An:=Zcs.an) Zcs.envC (by kernel_rfl) (by kernel_rfl)
noncomputable abbrev Zcs.J:=FJ Zcs.env Zcs.an Zcs.code Zcs.ps Zcs.ros
def Zcs.j3 (h0:(List Int)):(Option zt0):=Zcs.J [1,1] (St.mk ((0,(V.val zt21 h0)) :: []) [] 0)
theorem Zcs.j3_eq (h0:(List Int)):Zcs.j3 h0 = (some (h0,0)):=Zdn (by kernel_rfl)
theorem spec_l1Open_eq (p0code:(List Int)):Zcs (p0code) = iteB (ltI 2000 (lenL p0code)) (iteB (Zfs 0 2000 (lenL p0code)) (Zcs.j3 (cutL p0code 0 2000)) (none)) (Zcs.j3 p0code):=by kernel_rfl
abbrev Zc1.ps:List PT:=[]
abbrev Zc1.ros:List (ResultVar × RO):=[(.tmp 0,.own zt37)]
def Zc1.env:Env:={ L:=tlist,G:=glist,C:=[] }
def Zc1.an:Ann:={ lp:=[],jn:=[],sc:=[],kp:=[] }
def Zc1.code:Code:=Tryz.f191.body.getD .skip
def Zc1 (x:Unit):zt35:=fnR Zc1.env Zc1.an Zc1.code Zc1.ps Zc1.ros x
noncomputable abbrev Zc1.en:Zda:=entry Zc1.ps Zc1.ros Zc1
theorem Zc1.envC:EnvC Tryz.prog Zc1.env:=(.nilG lay_ok Zbh)
theorem Zc1.sat:SatC Tryz.prog glist 191 Zc1.en:=satY (fn:=Tryz.f191) (c:=Zc1.code) (An:=Zc1.an) Zc1.envC (by kernel_rfl) (by kernel_rfl)
theorem spec_l10Fields_eq:Zc1 (Unit.unit) = (some (((bs [116,105,116,108,101]),(1,3)) :: (((bs [98,111,100,121]),(1,1)) :: (((bs [112,114,105,99,101]),(2,0)) :: (((bs [99,111,108,111,114]),(3,0)) :: []))))):=by kernel_rfl
abbrev Zap.ps:List PT:=[.st zt27,.val (.int .i64)]
abbrev Zap.ros:List (ResultVar × RO):=[(.tmp 4,.val (.int .i64))]
def Zap.env:Env:={ L:=tlist,G:=glist,C:=[] }
def Zap.an:Ann:={ lp:=[],jn:=[],sc:=[(7,[(0,true),(1,true),(2,true),(3,true),(4,true),(5,true),(6,true),(7,true),(8,true),(9,true),(10,true),(11,true),(12,true),(13,true),(14,true),(15,true),(16,true),(17,true),(18,true),(19,true),(20,true),(21,true),(22,true),(23,true),(24,true),(25,true),(26,true),(27,true),(28,true),(29,true),(30,true),(31,true),(32,true),(33,true),(34,true),(35,true),(36,true),(37,false),(38,false),(39,false),(40,false),(41,false),(42,false),(43,false),(44,false),(45,false)])],kp:=[0] }
def Zap.code:Code:=Tryz.f95.body.getD .skip
def Zap (x:zt0 × Int):(Option zt16):=fnR Zap.env Zap.an Zap.code Zap.ps Zap.ros x
noncomputable abbrev Zap.en:Zda:=entry Zap.ps Zap.ros Zap
theorem Zap.envC:EnvC Tryz.prog Zap.env:=(.nilG lay_ok Zbh)
theorem Zap.sat:SatC Tryz.prog glist 95 Zap.en:=satY (fn:=Tryz.f95) (c:=Zap.code) (An:=Zap.an) Zap.envC (by kernel_rfl) (by kernel_rfl)
theorem spec_l1Rd_pick_eq (p0r:zt0) (p1n:Int):Zap ((p0r,p1n)) = iteB (ltI p1n 1) ((some (0,(p0r.1,(addI .i64 p0r.2 1))))) (iteB (eqI (lenL p0r.1) 0) ((some (0,(p0r.1,(addI .i64 p0r.2 1))))) (iteB (ltI (subI .i64 (addI .i64 p0r.2 1) 1) (lenL p0r.1)) (bindO (atL p0r.1 (subI .i64 (addI .i64 p0r.2 1) 1)) (fun (y2:Int)=>iteB (eqI p1n 0) (none) ((some ((modI (Zhv .i64 y2) p1n),(p0r.1,(addI .i64 p0r.2 1))))))) (iteB (eqI (lenL p0r.1) 0) (none) (bindO (atL p0r.1 (modI (subI .i64 (addI .i64 p0r.2 1) 1) (lenL p0r.1))) (fun (y2:Int)=>iteB (eqI (lenL p0r.1) 0) (none) (bindO (atL p0r.1 (modI (addI .i64 (mulI .i64 (subI .i64 (addI .i64 p0r.2 1) 1) 7) 3) (lenL p0r.1))) (fun (y3:Int)=>iteB (eqI (lenL p0r.1) 0) (none) (iteB (eqI 64 0) (none) (iteB (eqI p1n 0) (none) ((some ((modI (xorI .i64 (addI .i64 (addI .i64 (addI .i64 (mulI .i64 (Zhv .i64 y2) 131) (mulI .i64 (Zhv .i64 y3) 1117)) (mulI .i64 (subI .i64 (addI .i64 p0r.2 1) 1) 29)) (mulI .i64 (divI .i64 (subI .i64 (addI .i64 p0r.2 1) 1) (lenL p0r.1)) 53)) (divI .i64 (addI .i64 (addI .i64 (addI .i64 (mulI .i64 (Zhv .i64 y2) 131) (mulI .i64 (Zhv .i64 y3) 1117)) (mulI .i64 (subI .i64 (addI .i64 p0r.2 1) 1) 29)) (mulI .i64 (divI .i64 (subI .i64 (addI .i64 p0r.2 1) 1) (lenL p0r.1)) 53)) 64)) p1n),(p0r.1,(addI .i64 p0r.2 1)))))))))))))):=by kernel_rfl
abbrev Zco.ps:List PT:=[.st zt27]
abbrev Zco.ros:List (ResultVar × RO):=[(.tmp 2,.val zt42)]
def Zco.env:Env:={ L:=tlist,G:=glist,C:=[(191,Zc1.en),(95,Zap.en)] }
def Zco.an:Ann:={ lp:=[],jn:=[],sc:=[],kp:=[0] }
def Zco.code:Code:=Tryz.f135.body.getD .skip
def Zco (x:zt0):zt57:=fnR Zco.env Zco.an Zco.code Zco.ps Zco.ros x
noncomputable abbrev Zco.en:Zda:=entry Zco.ps Zco.ros Zco
theorem Zco.envC:EnvC Tryz.prog Zco.env:=(cns (cns (.nilG lay_ok Zbh) Zap.sat) Zc1.sat)
theorem Zco.sat:SatC Tryz.prog glist 135 Zco.en:=satY (fn:=Tryz.f135) (c:=Zco.code) (An:=Zco.an) Zco.envC (by kernel_rfl) (by kernel_rfl)
theorem spec_l11Fields_eq (p0r:zt0):Zco (p0r) = bindO (Zc1 PUnit.unit) (fun (y1:zt24)=>bindO (Zap ((p0r.1,p0r.2),4)) (fun (y2:zt16)=>iteB (eqI y2.1 0) (iteB (Zfs 0 1 (lenL y1)) ((some ((cutL y1 0 1),(y2.2.1,y2.2.2)))) (none)) (iteB (eqI y2.1 1) (iteB (Zfs 1 (lenL y1) (lenL y1)) ((some ((cutL y1 1 (lenL y1)),(y2.2.1,y2.2.2)))) (none)) ((some (y1,(y2.2.1,y2.2.2))))))):=by kernel_rfl
abbrev Zbm.ps:List PT:=[.st zt27,.val (.sl (.str))]
abbrev Zbm.ros:List (ResultVar × RO):=[(.tmp 4,.val (.str))]
def Zbm.env:Env:={ L:=tlist,G:=glist,C:=[(95,Zap.en)] }
def Zbm.an:Ann:={ lp:=[],jn:=[],sc:=[],kp:=[0] }
def Zbm.code:Code:=Tryz.f46.body.getD .skip
def Zbm (x:zt0 × (List ByteArray)):zt36:=fnR Zbm.env Zbm.an Zbm.code Zbm.ps Zbm.ros x
noncomputable abbrev Zbm.en:Zda:=entry Zbm.ps Zbm.ros Zbm
theorem Zbm.envC:EnvC Tryz.prog Zbm.env:=(cns (.nilG lay_ok Zbh) Zap.sat)
theorem Zbm.sat:SatC Tryz.prog glist 46 Zbm.en:=satY (fn:=Tryz.f46) (c:=Zbm.code) (An:=Zbm.an) Zbm.envC (by kernel_rfl) (by kernel_rfl)
theorem spec_l1Rd_of_eq (p0r:zt0) (p1list:(List ByteArray)):Zbm ((p0r,p1list)) = bindO (Zap ((p0r.1,p0r.2),(lenL p1list))) (fun (y2:zt16)=>bindO (atL p1list y2.1) (fun (y3:ByteArray)=>(some (y3,(y2.2.1,y2.2.2))))):=by kernel_rfl
abbrev Zax.ps:List PT:=[.val zt42,.val (.str)]
abbrev Zax.ros:List (ResultVar × RO):=[(.tmp 4,.val (.int .i64))]
def Zax.env:Env:={ L:=tlist,G:=glist,C:=[] }
def Zax.an:Ann:={ lp:=[(2,[0,1,5])],jn:=[(6,[])],sc:=[],kp:=[] }
def Zax.code:Code:=Tryz.f98.body.getD .skip
def Zax (x:zt24 × ByteArray):(Option Int):=fnR Zax.env Zax.an Zax.code Zax.ps Zax.ros x
noncomputable abbrev Zax.en:Zda:=entry Zax.ps Zax.ros Zax
theorem Zax.envC:EnvC Tryz.prog Zax.env:=(.nilG lay_ok Zbh)
theorem Zax.sat:SatC Tryz.prog glist 98 Zax.en:=satY (fn:=Tryz.f98) (c:=Zax.code) (An:=Zax.an) Zax.envC (by kernel_rfl) (by kernel_rfl)
noncomputable abbrev Zax.J:=FJ Zax.env Zax.an Zax.code Zax.ps Zax.ros
noncomputable abbrev Zax.L:=FL Zax.env Zax.an Zax.code Zax.ps Zax.ros
def Zax.l2 (h0:zt24) (h1:ByteArray) (h2:Int):(Option Int):=Zax.L [1,0,1,0] (St.mk ((0,(V.val zt69 h0)) :: ((1,(vs h1)) :: ((5,(V.val zt9 h2)) :: []))) [] 0)
def Zax.j6:(Option Int):=Zax.J [1,1] (St.mk [] [] 0)
theorem Zax.l2_eq (h0:zt24) (h1:ByteArray) (h2:Int):Zax.l2 h0 h1 h2 = iteB (ltI h2 (lenL h0)) (bindO (atL h0 h2) (fun (y3:zt12)=>iteB (eqS y3.1 h1) ((some h2)) (Zax.l2 h0 h1 (addI .i64 h2 1)))) (Zax.j6):=(Zcg Zax.envC.ok.nat _ _ _).trans (by kernel_rfl)
theorem Zax.j6_eq:Zax.j6  = (some (-1)):=Zdn (by kernel_rfl)
theorem Zf6 (p0list:zt24) (p1name:ByteArray):Zax ((p0list,p1name)) = Zax.l2 p0list p1name 0:=by kernel_rfl
abbrev Zdd.ps:List PT:=[.st zt27]
abbrev Zdd.ros:List (ResultVar × RO):=[(.tmp 2,.val (.str))]
def Zdd.env:Env:={ L:=tlist,G:=glist,C:=[(46,Zbm.en)] }
def Zdd.an:Ann:={ lp:=[],jn:=[],sc:=[],kp:=[0] }
def Zdd.code:Code:=Tryz.f232.body.getD .skip
def Zdd (x:zt0):zt36:=fnR Zdd.env Zdd.an Zdd.code Zdd.ps Zdd.ros x
noncomputable abbrev Zdd.en:Zda:=entry Zdd.ps Zdd.ros Zdd
theorem Zdd.envC:EnvC Tryz.prog Zdd.env:=(cns (.nilG lay_ok Zbh) Zbm.sat)
theorem Zdd.sat:SatC Tryz.prog glist 232 Zdd.en:=satY (fn:=Tryz.f232) (c:=Zdd.code) (An:=Zdd.an) Zdd.envC (by kernel_rfl) (by kernel_rfl)
theorem spec_l11Word_eq (p0r:zt0):Zdd (p0r) = bindO (Zbm ((p0r.1,p0r.2),((bs [114,101,100]) :: ((bs [82,101,100]) :: ((bs [97,112,112,108,101]) :: ((bs [97,112,112,108,101,115]) :: ((bs [112,105,101]) :: ((bs [116,104,101]) :: ((bs [111,102]) :: ((bs [103,108,97,115,115]) :: ((bs [98,117,115]) :: ((bs [116,114,101,101]) :: ((bs [116,114,101,101,115]) :: ((bs [55]) :: ((bs [118,101,114,121,108,111,110,103,119,111,114,100,105,110,100,101,101,100]) :: ((bs [97]) :: [])))))))))))))))) (fun (y1:zt25)=>(some (y1.1,(y1.2.1,y1.2.2)))):=by kernel_rfl
abbrev Zba.ps:List PT:=[.st zt27]
abbrev Zba.ros:List (ResultVar × RO):=[(.tmp 2,.val (.str))]
def Zba.env:Env:={ L:=tlist,G:=glist,C:=[(95,Zap.en),(232,Zdd.en),(46,Zbm.en)] }
def Zba.an:Ann:={ lp:=[(3,[0,3,4])],jn:=[(6,[3])],sc:=[],kp:=[0] }
def Zba.code:Code:=Tryz.f192.body.getD .skip
def Zba (x:zt0):zt36:=fnR Zba.env Zba.an Zba.code Zba.ps Zba.ros x
noncomputable abbrev Zba.en:Zda:=entry Zba.ps Zba.ros Zba
theorem Zba.envC:EnvC Tryz.prog Zba.env:=(cns (cns (cns (.nilG lay_ok Zbh) Zbm.sat) Zdd.sat) Zap.sat)
theorem Zba.sat:SatC Tryz.prog glist 192 Zba.en:=satY (fn:=Tryz.f192) (c:=Zba.code) (An:=Zba.an) Zba.envC (by kernel_rfl) (by kernel_rfl)
noncomputable abbrev Zba.J:=FJ Zba.env Zba.an Zba.code Zba.ps Zba.ros
noncomputable abbrev Zba.L:=FL Zba.env Zba.an Zba.code Zba.ps Zba.ros
def Zba.l3 (h0:ByteArray) (h1:Int) (h2:(List Int)) (h3:Int):zt36:=Zba.L [1,1,0,1,0] (St.mk ((0,(V.ptr 0 0)) :: ((3,(vs h0)) :: ((4,(V.val zt9 h1)) :: []))) ((0,(some (Bx.cs ((V.val zt21 h2) :: ((V.val zt9 h3) :: []))))) :: []) 1)
def Zba.j6 (h0:ByteArray) (h1:(List Int)) (h2:Int):zt36:=Zba.J [1,1,1] (St.mk ((3,(vs h0)) :: []) ((0,(some (Bx.cs ((V.val zt21 h1) :: ((V.val zt9 h2) :: []))))) :: []) 1)
theorem Zba.l3_eq (h0:ByteArray) (h1:Int) (h2:(List Int)) (h3:Int):Zba.l3 h0 h1 h2 h3 = iteB (ltI 0 h1) (bindO (Zdd (h2,h3)) (fun (y4:zt25)=>iteB (roomS h0 y4.1) (bindO (Zbm ((y4.2.1,y4.2.2),((bs [32]) :: ((bs [44,32]) :: ((bs [45]) :: ((bs [32]) :: ((bs [46]) :: []))))))) (fun (y5:zt25)=>iteB (roomS (catS h0 y4.1) y5.1) (Zba.l3 (catS (catS h0 y4.1) y5.1) (subI .i64 h1 1) y5.2.1 y5.2.2) (none))) (none))) (Zba.j6 h0 h2 h3):=(Zcg Zba.envC.ok.nat _ _ _).trans (by kernel_rfl)
theorem Zba.j6_eq (h0:ByteArray) (h1:(List Int)) (h2:Int):Zba.j6 h0 h1 h2 = (some (h0,(h1,h2))):=Zdn (by kernel_rfl)
theorem spec_l11Text_eq (p0r:zt0):Zba (p0r) = bindO (Zap ((p0r.1,p0r.2),6)) (fun (y1:zt16)=>Zba.l3 (bs []) y1.1 y1.2.1 y1.2.2):=by kernel_rfl
abbrev Zaf.ps:List PT:=[.st zt27,.val zt42]
abbrev Zaf.ros:List (ResultVar × RO):=[(.cell 4 38,.mx zt32 1 zt4 [])]
def Zaf.env:Env:={ L:=tlist,G:=glist,C:=[(46,Zbm.en),(98,Zax.en),(95,Zap.en),(192,Zba.en)] }
def Zaf.an:Ann:={ lp:=[(4,[0,1,4,5,6,7])],jn:=[(5,[0,1,4,5,6,7]),(14,[0,1,4,5,6,7,9]),(15,[4,5])],sc:=[],kp:=[0],fk:=[(8,(.one 0 true (.one 1 true (.one 2 true (.one 3 true (.one 4 true (.or (.one 5 false (.one 6 true (.one 7 false (.one 8 false .done)))) (.one 7 false (.one 5 false (.one 6 false (.one 8 false .done)))))))))),[0,1,4,5,6,7,8],[0,1,4,5,6,7,8,9],[])] }
def Zaf.code:Code:=Tryz.f136.body.getD .skip
def Zaf (x:zt0 × zt24):zt67:=fnR Zaf.env Zaf.an Zaf.code Zaf.ps Zaf.ros x
noncomputable abbrev Zaf.en:Zda:=entry Zaf.ps Zaf.ros Zaf
theorem Zaf.envC:EnvC Tryz.prog Zaf.env:=(cns (cns (cns (cns (.nilG lay_ok Zbh) Zba.sat) Zap.sat) Zax.sat) Zbm.sat)
theorem Zaf.sat:SatC Tryz.prog glist 136 Zaf.en:=satY (fn:=Tryz.f136) (c:=Zaf.code) (An:=Zaf.an) Zaf.envC (by kernel_rfl) (by kernel_rfl)
noncomputable abbrev Zaf.J:=FJ Zaf.env Zaf.an Zaf.code Zaf.ps Zaf.ros
noncomputable abbrev Zaf.JF:=FF Zaf.env Zaf.an Zaf.code Zaf.ps Zaf.ros
noncomputable abbrev Zaf.L:=FL Zaf.env Zaf.an Zaf.code Zaf.ps Zaf.ros
def Zaf.l4 (h0:zt24) (h1:Int) (h2:(List ByteArray)) (h3 h4:ByteArray) (h5:(List Int)) (h6:Int):zt67:=Zaf.L [1,1,1,0,1,0] (St.mk ((0,(V.ptr 0 0)) :: ((1,(V.val zt69 h0)) :: ((4,(V.ptr 1 0)) :: ((5,(V.ptr 2 0)) :: ((6,(V.arr 3)) :: ((7,(V.val zt9 h1)) :: [])))))) ((3,(some (Bx.rows Ty.str h2))) :: ((2,(some (Bx.cs ((vs h3) :: (V.nil :: []))))) :: ((1,(some (Bx.cs ((vs h4) :: (V.nil :: []))))) :: ((0,(some (Bx.cs ((V.val zt21 h5) :: ((V.val zt9 h6) :: []))))) :: [])))) 4)
def Zaf.j5 (h0:zt24) (h1:Int) (h2:(List ByteArray)) (h3 h4:ByteArray) (h5:(List Int)) (h6:Int):zt67:=Zaf.J [1,1,1,0,1,0,0,1,1] (St.mk ((0,(V.ptr 0 0)) :: ((1,(V.val zt69 h0)) :: ((4,(V.ptr 1 0)) :: ((5,(V.ptr 2 0)) :: ((6,(V.arr 3)) :: ((7,(V.val zt9 h1)) :: [])))))) ((3,(some (Bx.rows Ty.str h2))) :: ((2,(some (Bx.cs ((vs h3) :: (V.nil :: []))))) :: ((1,(some (Bx.cs ((vs h4) :: (V.nil :: []))))) :: ((0,(some (Bx.cs ((V.val zt21 h5) :: ((V.val zt9 h6) :: []))))) :: [])))) 4)
def Zaf.j100008 (h0:zt24) (h1 h2:Int) (h3:(List ByteArray)) (h4 h5:ByteArray) (h6:(List Int)) (h7:Int):zt67:=Zaf.JF [1,1,1,0,1,0,0,1,0,0,1,1,0] (St.mk ((0,(V.ptr 0 0)) :: ((1,(V.val zt69 h0)) :: ((4,(V.ptr 1 0)) :: ((5,(V.ptr 2 0)) :: ((6,(V.arr 3)) :: ((7,(V.val zt9 h1)) :: ((8,(V.val zt9 h2)) :: []))))))) ((3,(some (Bx.rows Ty.str h3))) :: ((2,(some (Bx.cs ((vs h4) :: (V.nil :: []))))) :: ((1,(some (Bx.cs ((vs h5) :: (V.nil :: []))))) :: ((0,(some (Bx.cs ((V.val zt21 h6) :: ((V.val zt9 h7) :: []))))) :: [])))) 4)
def Zaf.j15 (h0 h1:ByteArray) (h2:(List Int)) (h3:Int):zt67:=Zaf.J [1,1,1,1] (St.mk ((4,(V.ptr 1 0)) :: ((5,(V.ptr 2 0)) :: [])) ((2,(some (Bx.cs ((vs h0) :: (V.nil :: []))))) :: ((1,(some (Bx.cs ((vs h1) :: (V.nil :: []))))) :: ((0,(some (Bx.cs ((V.val zt21 h2) :: ((V.val zt9 h3) :: []))))) :: []))) 3)
def Zaf.j14 (h0:zt24) (h1:Int) (h2 h3:ByteArray) (h4:(List ByteArray)) (h5 h6:ByteArray) (h7:(List Int)) (h8:Int):zt67:=Zaf.J [1,1,1,0,1,0,0,1,0,0,1,1,1,1] (St.mk ((0,(V.ptr 0 0)) :: ((1,(V.val zt69 h0)) :: ((4,(V.ptr 1 0)) :: ((5,(V.ptr 2 0)) :: ((6,(V.arr 3)) :: ((7,(V.val zt9 h1)) :: ((9,(V.ptr 4 0)) :: []))))))) ((4,(some (Bx.cs ((vs h2) :: ((vs h3) :: []))))) :: ((3,(some (Bx.rows Ty.str h4))) :: ((2,(some (Bx.cs ((vs h5) :: (V.nil :: []))))) :: ((1,(some (Bx.cs ((vs h6) :: (V.nil :: []))))) :: ((0,(some (Bx.cs ((V.val zt21 h7) :: ((V.val zt9 h8) :: []))))) :: []))))) 5)
def Zaf.j5_1 (h0:zt24) (h1:Int) (h2:(List ByteArray)) (h3:ByteArray) (h4:zt22) (h5:ByteArray) (h6:(List Int)) (h7:Int):zt67:=Zaf.J [1,1,1,0,1,0,0,1,1] (St.mk ((0,(V.ptr 0 0)) :: ((1,(V.val zt69 h0)) :: ((4,(V.ptr 1 0)) :: ((5,(V.ptr 2 0)) :: ((6,(V.arr 4)) :: ((7,(V.val zt9 h1)) :: [])))))) ((4,(some (Bx.rows Ty.str h2))) :: ((2,(some (Bx.cs ((vs h3) :: ((V.arr 3) :: []))))) :: ((3,(some (Bx.rows zt6 h4))) :: ((1,(some (Bx.cs ((vs h5) :: (V.nil :: []))))) :: ((0,(some (Bx.cs ((V.val zt21 h6) :: ((V.val zt9 h7) :: []))))) :: []))))) 5)
def Zaf.l4_1 (h0:zt24) (h1:Int) (h2:(List ByteArray)) (h3:ByteArray) (h4:zt22) (h5:ByteArray) (h6:(List Int)) (h7:Int):zt67:=Zaf.L [1,1,1,0,1,0] (St.mk ((0,(V.ptr 0 0)) :: ((1,(V.val zt69 h0)) :: ((4,(V.ptr 1 0)) :: ((5,(V.ptr 2 0)) :: ((6,(V.arr 4)) :: ((7,(V.val zt9 h1)) :: [])))))) ((4,(some (Bx.rows Ty.str h2))) :: ((2,(some (Bx.cs ((vs h3) :: ((V.arr 3) :: []))))) :: ((3,(some (Bx.rows zt6 h4))) :: ((1,(some (Bx.cs ((vs h5) :: (V.nil :: []))))) :: ((0,(some (Bx.cs ((V.val zt21 h6) :: ((V.val zt9 h7) :: []))))) :: []))))) 5)
def Zaf.j100008_1 (h0:zt24) (h1 h2:Int) (h3:(List ByteArray)) (h4:ByteArray) (h5:zt22) (h6:ByteArray) (h7:(List Int)) (h8:Int):zt67:=Zaf.JF [1,1,1,0,1,0,0,1,0,0,1,1,0] (St.mk ((0,(V.ptr 0 0)) :: ((1,(V.val zt69 h0)) :: ((4,(V.ptr 1 0)) :: ((5,(V.ptr 2 0)) :: ((6,(V.arr 4)) :: ((7,(V.val zt9 h1)) :: ((8,(V.val zt9 h2)) :: []))))))) ((4,(some (Bx.rows Ty.str h3))) :: ((2,(some (Bx.cs ((vs h4) :: ((V.arr 3) :: []))))) :: ((3,(some (Bx.rows zt6 h5))) :: ((1,(some (Bx.cs ((vs h6) :: (V.nil :: []))))) :: ((0,(some (Bx.cs ((V.val zt21 h7) :: ((V.val zt9 h8) :: []))))) :: []))))) 5)
def Zaf.j15_1 (h0:ByteArray) (h1:zt22) (h2:ByteArray) (h3:(List Int)) (h4:Int):zt67:=Zaf.J [1,1,1,1] (St.mk ((4,(V.ptr 1 0)) :: ((5,(V.ptr 2 0)) :: [])) ((2,(some (Bx.cs ((vs h0) :: ((V.arr 3) :: []))))) :: ((3,(some (Bx.rows zt6 h1))) :: ((1,(some (Bx.cs ((vs h2) :: (V.nil :: []))))) :: ((0,(some (Bx.cs ((V.val zt21 h3) :: ((V.val zt9 h4) :: []))))) :: [])))) 4)
def Zaf.j14_1 (h0:zt24) (h1:Int) (h2 h3:ByteArray) (h4:(List ByteArray)) (h5:ByteArray) (h6:zt22) (h7:ByteArray) (h8:(List Int)) (h9:Int):zt67:=Zaf.J [1,1,1,0,1,0,0,1,0,0,1,1,1,1] (St.mk ((0,(V.ptr 0 0)) :: ((1,(V.val zt69 h0)) :: ((4,(V.ptr 1 0)) :: ((5,(V.ptr 2 0)) :: ((6,(V.arr 4)) :: ((7,(V.val zt9 h1)) :: ((9,(V.ptr 5 0)) :: []))))))) ((5,(some (Bx.cs ((vs h2) :: ((vs h3) :: []))))) :: ((4,(some (Bx.rows Ty.str h4))) :: ((2,(some (Bx.cs ((vs h5) :: ((V.arr 3) :: []))))) :: ((3,(some (Bx.rows zt6 h6))) :: ((1,(some (Bx.cs ((vs h7) :: (V.nil :: []))))) :: ((0,(some (Bx.cs ((V.val zt21 h8) :: ((V.val zt9 h9) :: []))))) :: [])))))) 6)
theorem Zaf.l4_eq (h0:zt24) (h1:Int) (h2:(List ByteArray)) (h3 h4:ByteArray) (h5:(List Int)) (h6:Int):Zaf.l4 h0 h1 h2 h3 h4 h5 h6 = iteB (ltI h1 (lenL h2)) (iteB (leI 0 h1) (iteB (ltI h1 (lenL h2)) (bindO (atL h2 h1) (fun (y7:ByteArray)=>bindO (Zax (h0,y7)) (fun (y8:Int)=>iteB (ltI y8 0) (Zaf.j5 h0 h1 h2 h3 h4 h5 h6) (bindO (Zap ((h5,h6),4)) (fun (y9:zt16)=>iteB (eqI y9.1 0) (Zaf.j5 h0 h1 h2 h3 h4 y9.2.1 y9.2.2) (Zaf.j100008 h0 h1 y8 h2 h3 h4 y9.2.1 y9.2.2)))))) (none)) (none)) (Zaf.j15 h3 h4 h5 h6):=(Zcg Zaf.envC.ok.nat _ _ _).trans (by kernel_rfl)
theorem Zaf.j5_eq (h0:zt24) (h1:Int) (h2:(List ByteArray)) (h3 h4:ByteArray) (h5:(List Int)) (h6:Int):Zaf.j5 h0 h1 h2 h3 h4 h5 h6 = Zaf.l4 h0 (addI .i64 h1 1) h2 h3 h4 h5 h6:=Zdn (by kernel_rfl)
theorem Zaf.j100008_eq (h0:zt24) (h1 h2:Int) (h3:(List ByteArray)) (h4 h5:ByteArray) (h6:(List Int)) (h7:Int):Zaf.j100008 h0 h1 h2 h3 h4 h5 h6 h7 = iteB (leI 0 h1) (iteB (ltI h1 (lenL h3)) (bindO (atL h3 h1) (fun (y8:ByteArray)=>bindO (Zba (h6,h7)) (fun (y9:zt25)=>bindO (atL h0 h2) (fun (y10:zt12)=>iteB (eqI y10.2.1 2) (bindO (Zbm ((y9.2.1,y9.2.2),((bs [48]) :: ((bs [53]) :: ((bs [55]) :: ((bs [45,51]) :: ((bs [49,50]) :: ((bs [57,57,57,57,57,57,57,57,57]) :: [])))))))) (fun (y11:zt25)=>Zaf.j14 h0 h1 y8 y11.1 h3 h4 h5 y11.2.1 y11.2.2)) (iteB (eqI y10.2.1 3) (bindO (Zbm ((y9.2.1,y9.2.2),((bs [114,101,100]) :: ((bs [98,108,117,101]) :: ((bs [114,101,100,44,98,108,117,101]) :: ((bs [98,108,117,101,44,114,101,100,44,114,101,100]) :: ((bs [103,114,101,101,110]) :: []))))))) (fun (y11:zt25)=>Zaf.j14 h0 h1 y8 y11.1 h3 h4 h5 y11.2.1 y11.2.2)) (Zaf.j14 h0 h1 y8 y9.1 h3 h4 h5 y9.2.1 y9.2.2)))))) (none)) (none):=(Zgy (E:=Zaf.env) (A:=Zaf.an) (c:=(Zis Zaf.code [1,1,1,0,1,0,0,1,0,0,1,1,0])) (s:=(St.mk ((0,(V.ptr 0 0)) :: ((1,(V.val zt69 h0)) :: ((4,(V.ptr 1 0)) :: ((5,(V.ptr 2 0)) :: ((6,(V.arr 3)) :: ((7,(V.val zt9 h1)) :: ((8,(V.val zt9 h2)) :: []))))))) ((3,(some (Bx.rows Ty.str h3))) :: ((2,(some (Bx.cs ((V.val Ty.str h4) :: (V.nil :: []))))) :: ((1,(some (Bx.cs ((V.val Ty.str h5) :: (V.nil :: []))))) :: ((0,(some (Bx.cs ((V.val zt21 h6) :: ((V.val zt9 h7) :: []))))) :: [])))) 4)) (κ:=(Zgf Zaf.env Zaf.an Zaf.code [1,1,1,0,1,0,0,1,0,0,1,1,0] (retK Zaf.env [.st zt27,.val zt42] [(.cell 4 38,.mx zt32 1 zt4 [])]))) (List.replicate 1 (iteB (leI 0 h1) (iteB (ltI h1 (lenL h3)) (bindO (atL h3 h1) (fun (y8:ByteArray)=>bindO (Zba (h6,h7)) (fun (y9:zt25)=>(some (St.mk ((0,(V.ptr 0 0)) :: ((1,(V.val zt69 h0)) :: ((4,(V.ptr 1 0)) :: ((5,(V.ptr 2 0)) :: ((6,(V.arr 3)) :: ((7,(V.val zt9 h1)) :: ((8,(V.val zt9 h2)) :: ((9,(V.ptr 4 0)) :: [])))))))) ((4,(some (Bx.cs ((V.val Ty.str y8) :: ((V.val Ty.str y9.1) :: []))))) :: ((3,(some (Bx.rows Ty.str h3))) :: ((2,(some (Bx.cs ((V.val Ty.str h4) :: (V.nil :: []))))) :: ((1,(some (Bx.cs ((V.val Ty.str h5) :: (V.nil :: []))))) :: ((0,(some (Bx.cs ((V.val zt21 y9.2.1) :: ((V.val zt9 y9.2.2) :: []))))) :: []))))) 5))))) (none)) (none))) (by kernel_rfl) (by kernel_rfl)).trans (by kernel_rfl)
theorem Zaf.j15_eq (h0 h1:ByteArray) (h2:(List Int)) (h3:Int):Zaf.j15 h0 h1 h2 h3 = (some ((h0,[]),(h2,h3))):=Zdn (by kernel_rfl)
theorem Zaf.j14_eq (h0:zt24) (h1:Int) (h2 h3:ByteArray) (h4:(List ByteArray)) (h5 h6:ByteArray) (h7:(List Int)) (h8:Int):Zaf.j14 h0 h1 h2 h3 h4 h5 h6 h7 h8 = iteB (Zek [] ((h2,h3) :: [])) (Zaf.j5_1 h0 h1 h4 h5 ((h2,h3) :: []) h6 h7 h8) (none):=Zdn (by kernel_rfl)
theorem Zaf.j5_1_eq (h0:zt24) (h1:Int) (h2:(List ByteArray)) (h3:ByteArray) (h4:zt22) (h5:ByteArray) (h6:(List Int)) (h7:Int):Zaf.j5_1 h0 h1 h2 h3 h4 h5 h6 h7 = Zaf.l4_1 h0 (addI .i64 h1 1) h2 h3 h4 h5 h6 h7:=Zdn (by kernel_rfl)
theorem Zaf.l4_1_eq (h0:zt24) (h1:Int) (h2:(List ByteArray)) (h3:ByteArray) (h4:zt22) (h5:ByteArray) (h6:(List Int)) (h7:Int):Zaf.l4_1 h0 h1 h2 h3 h4 h5 h6 h7 = iteB (ltI h1 (lenL h2)) (iteB (leI 0 h1) (iteB (ltI h1 (lenL h2)) (bindO (atL h2 h1) (fun (y8:ByteArray)=>bindO (Zax (h0,y8)) (fun (y9:Int)=>iteB (ltI y9 0) (Zaf.j5_1 h0 h1 h2 h3 h4 h5 h6 h7) (bindO (Zap ((h6,h7),4)) (fun (y10:zt16)=>iteB (eqI y10.1 0) (Zaf.j5_1 h0 h1 h2 h3 h4 h5 y10.2.1 y10.2.2) (Zaf.j100008_1 h0 h1 y9 h2 h3 h4 h5 y10.2.1 y10.2.2)))))) (none)) (none)) (Zaf.j15_1 h3 h4 h5 h6 h7):=(Zcg Zaf.envC.ok.nat _ _ _).trans (by kernel_rfl)
theorem Zaf.j100008_1_eq (h0:zt24) (h1 h2:Int) (h3:(List ByteArray)) (h4:ByteArray) (h5:zt22) (h6:ByteArray) (h7:(List Int)) (h8:Int):Zaf.j100008_1 h0 h1 h2 h3 h4 h5 h6 h7 h8 = iteB (leI 0 h1) (iteB (ltI h1 (lenL h3)) (bindO (atL h3 h1) (fun (y9:ByteArray)=>bindO (Zba (h7,h8)) (fun (y10:zt25)=>bindO (atL h0 h2) (fun (y11:zt12)=>iteB (eqI y11.2.1 2) (bindO (Zbm ((y10.2.1,y10.2.2),((bs [48]) :: ((bs [53]) :: ((bs [55]) :: ((bs [45,51]) :: ((bs [49,50]) :: ((bs [57,57,57,57,57,57,57,57,57]) :: [])))))))) (fun (y12:zt25)=>Zaf.j14_1 h0 h1 y9 y12.1 h3 h4 h5 h6 y12.2.1 y12.2.2)) (iteB (eqI y11.2.1 3) (bindO (Zbm ((y10.2.1,y10.2.2),((bs [114,101,100]) :: ((bs [98,108,117,101]) :: ((bs [114,101,100,44,98,108,117,101]) :: ((bs [98,108,117,101,44,114,101,100,44,114,101,100]) :: ((bs [103,114,101,101,110]) :: []))))))) (fun (y12:zt25)=>Zaf.j14_1 h0 h1 y9 y12.1 h3 h4 h5 h6 y12.2.1 y12.2.2)) (Zaf.j14_1 h0 h1 y9 y10.1 h3 h4 h5 h6 y10.2.1 y10.2.2)))))) (none)) (none):=(Zgy (E:=Zaf.env) (A:=Zaf.an) (c:=(Zis Zaf.code [1,1,1,0,1,0,0,1,0,0,1,1,0])) (s:=(St.mk ((0,(V.ptr 0 0)) :: ((1,(V.val zt69 h0)) :: ((4,(V.ptr 1 0)) :: ((5,(V.ptr 2 0)) :: ((6,(V.arr 4)) :: ((7,(V.val zt9 h1)) :: ((8,(V.val zt9 h2)) :: []))))))) ((4,(some (Bx.rows Ty.str h3))) :: ((2,(some (Bx.cs ((V.val Ty.str h4) :: ((V.arr 3) :: []))))) :: ((3,(some (Bx.rows zt6 h5))) :: ((1,(some (Bx.cs ((V.val Ty.str h6) :: (V.nil :: []))))) :: ((0,(some (Bx.cs ((V.val zt21 h7) :: ((V.val zt9 h8) :: []))))) :: []))))) 5)) (κ:=(Zgf Zaf.env Zaf.an Zaf.code [1,1,1,0,1,0,0,1,0,0,1,1,0] (retK Zaf.env [.st zt27,.val zt42] [(.cell 4 38,.mx zt32 1 zt4 [])]))) (List.replicate 1 (iteB (leI 0 h1) (iteB (ltI h1 (lenL h3)) (bindO (atL h3 h1) (fun (y9:ByteArray)=>bindO (Zba (h7,h8)) (fun (y10:zt25)=>(some (St.mk ((0,(V.ptr 0 0)) :: ((1,(V.val zt69 h0)) :: ((4,(V.ptr 1 0)) :: ((5,(V.ptr 2 0)) :: ((6,(V.arr 4)) :: ((7,(V.val zt9 h1)) :: ((8,(V.val zt9 h2)) :: ((9,(V.ptr 5 0)) :: [])))))))) ((5,(some (Bx.cs ((V.val Ty.str y9) :: ((V.val Ty.str y10.1) :: []))))) :: ((4,(some (Bx.rows Ty.str h3))) :: ((2,(some (Bx.cs ((V.val Ty.str h4) :: ((V.arr 3) :: []))))) :: ((3,(some (Bx.rows zt6 h5))) :: ((1,(some (Bx.cs ((V.val Ty.str h6) :: (V.nil :: []))))) :: ((0,(some (Bx.cs ((V.val zt21 y10.2.1) :: ((V.val zt9 y10.2.2) :: []))))) :: [])))))) 6))))) (none)) (none))) (by kernel_rfl) (by kernel_rfl)).trans (by kernel_rfl)
theorem Zaf.j15_1_eq (h0:ByteArray) (h1:zt22) (h2:ByteArray) (h3:(List Int)) (h4:Int):Zaf.j15_1 h0 h1 h2 h3 h4 = (some ((h0,h1),(h3,h4))):=Zdn (by kernel_rfl)
theorem Zaf.j14_1_eq (h0:zt24) (h1:Int) (h2 h3:ByteArray) (h4:(List ByteArray)) (h5:ByteArray) (h6:zt22) (h7:ByteArray) (h8:(List Int)) (h9:Int):Zaf.j14_1 h0 h1 h2 h3 h4 h5 h6 h7 h8 h9 = iteB (Zek h6 ((h2,h3) :: [])) (Zaf.j5_1 h0 h1 h4 h5 (appL h6 ((h2,h3) :: [])) h7 h8 h9) (none):=Zdn (by kernel_rfl)
theorem spec_l11Doc_eq (p0r:zt0) (p1fields:zt24):Zaf ((p0r,p1fields)) = bindO (Zbm ((p0r.1,p0r.2),((bs [97]) :: ((bs [98]) :: ((bs [99]) :: ((bs [100]) :: ((bs [101]) :: ((bs [107,57]) :: [])))))))) (fun (y2:zt25)=>Zaf.l4 p1fields 0 ((bs [98,111,100,121]) :: ((bs [99,111,108,111,114]) :: ((bs [112,114,105,99,101]) :: ((bs [116,105,116,108,101]) :: [])))) y2.1 (bs []) y2.2.1 y2.2.2):=by kernel_rfl
abbrev Zar.ps:List PT:=[.val zt55,.val (.str)]
abbrev Zar.ros:List (ResultVar × RO):=[(.tmp 4,.own zt50)]
def Zar.env:Env:={ L:=tlist,G:=glist,C:=[] }
def Zar.an:Ann:={ lp:=[(3,[0,1,5,6])],jn:=[(4,[0,1,5,6]),(7,[5])],sc:=[],kp:=[] }
def Zar.code:Code:=Tryz.f137.body.getD .skip
def Zar (x:zt51 × ByteArray):zt61:=fnR Zar.env Zar.an Zar.code Zar.ps Zar.ros x
noncomputable abbrev Zar.en:Zda:=entry Zar.ps Zar.ros Zar
theorem Zar.envC:EnvC Tryz.prog Zar.env:=(.nilG lay_ok Zbh)
theorem Zar.sat:SatC Tryz.prog glist 137 Zar.en:=satY (fn:=Tryz.f137) (c:=Zar.code) (An:=Zar.an) Zar.envC (by kernel_rfl) (by kernel_rfl)
noncomputable abbrev Zar.J:=FJ Zar.env Zar.an Zar.code Zar.ps Zar.ros
noncomputable abbrev Zar.L:=FL Zar.env Zar.an Zar.code Zar.ps Zar.ros
def Zar.l3 (h0:zt51) (h1:ByteArray) (h2:Int) (h3:zt51):zt61:=Zar.L [1,1,0,1,0] (St.mk ((0,(V.val zt70 h0)) :: ((1,(vs h1)) :: ((5,(V.arr 0)) :: ((6,(V.val zt9 h2)) :: [])))) ((0,(some (Bx.rows zt68 h3))) :: []) 1)
def Zar.j4 (h0:zt51) (h1:ByteArray) (h2:Int) (h3:zt51):zt61:=Zar.J [1,1,0,1,0,0,1,1] (St.mk ((0,(V.val zt70 h0)) :: ((1,(vs h1)) :: ((5,(V.arr 0)) :: ((6,(V.val zt9 h2)) :: [])))) ((0,(some (Bx.rows zt68 h3))) :: []) 1)
def Zar.j7 (h0:zt51):zt61:=Zar.J [1,1,1] (St.mk ((5,(V.arr 0)) :: []) ((0,(some (Bx.rows zt68 h0))) :: []) 1)
theorem Zar.l3_eq (h0:zt51) (h1:ByteArray) (h2:Int) (h3:zt51):Zar.l3 h0 h1 h2 h3 = iteB (ltI h2 (lenL h0)) (bindO (atL h0 h2) (fun (y4:zt44)=>iteB (notB (eqS y4.2.1 h1)) (bindO (atL h0 h2) (fun (y5:zt44)=>iteB (Zek h3 (y5 :: [])) (Zar.j4 h0 h1 h2 (appL h3 (y5 :: []))) (none))) (Zar.j4 h0 h1 h2 h3))) (Zar.j7 h3):=(Zcg Zar.envC.ok.nat _ _ _).trans (by kernel_rfl)
theorem Zar.j4_eq (h0:zt51) (h1:ByteArray) (h2:Int) (h3:zt51):Zar.j4 h0 h1 h2 h3 = Zar.l3 h0 h1 (addI .i64 h2 1) h3:=Zdn (by kernel_rfl)
theorem Zar.j7_eq (h0:zt51):Zar.j7 h0 = (some h0):=Zdn (by kernel_rfl)
theorem spec_l4Without_eq (p0rows:zt51) (p1key:ByteArray):Zar ((p0rows,p1key)) = Zar.l3 p0rows p1key 0 []:=by kernel_rfl
def Zb8.env (g:Int -> zt1):Env:={ L:=tlist,G:=glist,C:=[(138,entry [.val (.int .i64)] [(.tmp 2,.val (.str))] g)] }
def Zb8.an:Ann:={ lp:=[],jn:=[],sc:=[],kp:=[],fk:=[(7,(.one 0 true (.one 1 true (.one 3 true (.one 4 true (.one 5 true (.one 6 true (.or (.one 2 false (.one 7 false (.one 8 false (.one 9 false (.one 10 false .done))))) (.one 7 false (.one 8 true (.one 2 false (.one 9 false (.one 10 false .done)))))))))))),[0],[2],[])] }
def Zb8.code:Code:=Tryz.f138.body.getD .skip
def Zb8.step (g:Int -> zt1) (x:Int):zt1:=fnR (Zb8.env g) Zb8.an Zb8.code [.val (.int .i64)] [(.tmp 2,.val (.str))] x
theorem Zb8.envC (g:Int -> zt1) (h:SatC Tryz.prog glist 138 (entry [.val (.int .i64)] [(.tmp 2,.val (.str))] g)):EnvC Tryz.prog (Zb8.env g):=.cons (.nilG lay_ok Zbh) h (entry_nat _ _ _)
theorem Zb8.envN (g:Int -> zt1):Env.ok (Zb8.env g):=okE_cons (EnvC.ok (P:=Tryz.prog) (.nilG lay_ok Zbh)).nat (entry_nat _ _ _)
def Zb8.fam:Nat -> Int -> zt1
 | 0=>fun _=>none
 | n + 1=>Zb8.step (Zb8.fam n)
theorem Zb8.satK:∀ n,SatC Tryz.prog glist 138 (entry [.val (.int .i64)] [(.tmp 2,.val (.str))] (Zb8.fam n))
 | 0=>satC_none (fun _=>rfl)
 | n + 1=>fn_sat (fn:=Tryz.f138) (c:=Zb8.code) (An:=Zb8.an) (Zb8.envC _ (Zb8.satK n)) mix_ok ⟨by kernel_rfl,by kernel_rfl,by kernel_rfl,by kernel_rfl,by kernel_rfl,by kernel_rfl,Nat.le_of_ble_eq_true (by kernel_rfl)⟩
def Zb8 (x:Int):zt1:=lim fun n=>Zb8.fam n x
noncomputable abbrev Zb8.en:Zda:=entry [.val (.int .i64)] [(.tmp 2,.val (.str))] Zb8
theorem Zb8.sat:SatC Tryz.prog glist 138 (Zb8.en):=satC_lim Zb8.satK
def Zb8.j100007 (g:Int -> zt1) (h0:Int):zt1:=hide (fun s=>orC (Zb8.env g) Zb8.an (Zis Zb8.code [1,1,1,1,0]) s (Zgf (Zb8.env g) Zb8.an Zb8.code [1,1,1,1,0] (retK (Zb8.env g) [.val (.int .i64)] [(.tmp 2,.val (.str))]))) (St.mk ((0,(V.val zt9 h0)) :: []) [] 0)
theorem Zb8.j100007_eq (g:Int -> zt1) (h0:Int):Zb8.j100007 g h0 = iteB (eqI 10 0) (none) (iteB (eqI 10 0) (none) (bindO (g (divI .i64 h0 10)) (fun (y1:ByteArray)=>iteB (roomS y1 (strOf ((Zhv .u8 (addI .i64 48 (modI h0 10))) :: []))) ((some (catS y1 (strOf ((Zhv .u8 (addI .i64 48 (modI h0 10))) :: []))))) (none)))):=(Zgy (E:=(Zb8.env g)) (A:=Zb8.an) (c:=(Zis Zb8.code [1,1,1,1,0])) (s:=(St.mk ((0,(V.val zt9 h0)) :: []) [] 0)) (κ:=(Zgf (Zb8.env g) Zb8.an Zb8.code [1,1,1,1,0] (retK (Zb8.env g) [.val (.int .i64)] [(.tmp 2,.val (.str))]))) (List.replicate 1 (iteB (eqI 10 0) (none) (iteB (eqI 10 0) (none) (bindO (g (divI .i64 h0 10)) (fun (y1:ByteArray)=>iteB (roomS y1 (strOf ((Zhv .u8 (addI .i64 48 (modI h0 10))) :: []))) ((some (St.mk ((2,(V.val Ty.str (catS y1 (strOf ((Zhv .u8 (addI .i64 48 (modI h0 10))) :: []))))) :: []) [] 0))) (none)))))) (by kernel_rfl) (by kernel_rfl)).trans (by kernel_rfl)
theorem Zb8.step_eq (g:Int -> zt1) (p0n:Int):Zb8.step g (p0n) = iteB (ltI p0n (-9223372036854775807)) ((some (bs [45,57,50,50,51,51,55,50,48,51,54,56,53,52,55,55,53,56,48,56]))) (iteB (ltI p0n 0) (bindO (g (negI .i64 p0n)) (fun (y1:ByteArray)=>iteB (roomS (bs [45]) y1) ((some (catS (bs [45]) y1))) (none))) (iteB (ltI p0n 10) ((some (strOf ((Zhv .u8 (addI .i64 48 p0n)) :: [])))) (Zb8.j100007 g p0n))):=by kernel_rfl
abbrev Zc9.ps:List PT:=[.val zt42,.val (.str),.val (.int .i64)]
abbrev Zc9.ros:List (ResultVar × RO):=[(.tmp 6,.val (.bool))]
def Zc9.env:Env:={ L:=tlist,G:=glist,C:=[(98,Zax.en)] }
def Zc9.an:Ann:={ lp:=[],jn:=[],sc:=[],kp:=[] }
def Zc9.code:Code:=Tryz.f50.body.getD .skip
def Zc9 (x:zt24 × ByteArray × Int):(Option Bool):=fnR Zc9.env Zc9.an Zc9.code Zc9.ps Zc9.ros x
noncomputable abbrev Zc9.en:Zda:=entry Zc9.ps Zc9.ros Zc9
theorem Zc9.envC:EnvC Tryz.prog Zc9.env:=(cns (.nilG lay_ok Zbh) Zax.sat)
theorem Zc9.sat:SatC Tryz.prog glist 50 Zc9.en:=satY (fn:=Tryz.f50) (c:=Zc9.code) (An:=Zc9.an) Zc9.envC (by kernel_rfl) (by kernel_rfl)
theorem spec_l2Kind_eq (p0fields:zt24) (p1name:ByteArray) (p2kind:Int):Zc9 ((p0fields,(p1name,p2kind))) = bindO (Zax (p0fields,p1name)) (fun (y3:Int)=>iteB (leI 0 y3) (bindO (atL p0fields y3) (fun (y4:zt12)=>(some (eqI y4.2.1 p2kind)))) ((some Bool.false))):=by kernel_rfl
abbrev Zc7.ps:List PT:=[.val (.int .u8)]
abbrev Zc7.ros:List (ResultVar × RO):=[(.tmp 2,.val (.int .u8))]
def Zc7.env:Env:={ L:=tlist,G:=glist,C:=[] }
def Zc7.an:Ann:={ lp:=[],jn:=[],sc:=[],kp:=[] }
def Zc7.code:Code:=Tryz.f270.body.getD .skip
def Zc7 (x:Int):(Option Int):=fnR Zc7.env Zc7.an Zc7.code Zc7.ps Zc7.ros x
noncomputable abbrev Zc7.en:Zda:=entry Zc7.ps Zc7.ros Zc7
theorem Zc7.envC:EnvC Tryz.prog Zc7.env:=(.nilG lay_ok Zbh)
theorem Zc7.sat:SatC Tryz.prog glist 270 Zc7.en:=satY (fn:=Tryz.f270) (c:=Zc7.code) (An:=Zc7.an) Zc7.envC (by kernel_rfl) (by kernel_rfl)
theorem spec_l1Small_eq (p0b:Int):Zc7 (p0b) = iteB (leI 65 p0b) (iteB (leI p0b 90) ((some (addI .u8 p0b 32))) ((some p0b))) ((some p0b)):=by kernel_rfl
abbrev Zdm.ps:List PT:=[.val (.int .u8)]
abbrev Zdm.ros:List (ResultVar × RO):=[(.tmp 2,.val (.bool))]
def Zdm.env:Env:={ L:=tlist,G:=glist,C:=[(270,Zc7.en)] }
def Zdm.an:Ann:={ lp:=[],jn:=[],sc:=[],kp:=[] }
def Zdm.code:Code:=Tryz.f233.body.getD .skip
def Zdm (x:Int):(Option Bool):=fnR Zdm.env Zdm.an Zdm.code Zdm.ps Zdm.ros x
noncomputable abbrev Zdm.en:Zda:=entry Zdm.ps Zdm.ros Zdm
theorem Zdm.envC:EnvC Tryz.prog Zdm.env:=(cns (.nilG lay_ok Zbh) Zc7.sat)
theorem Zdm.sat:SatC Tryz.prog glist 233 Zdm.en:=satY (fn:=Tryz.f233) (c:=Zdm.code) (An:=Zdm.an) Zdm.envC (by kernel_rfl) (by kernel_rfl)
theorem spec_l1Part_eq (p0b:Int):Zdm (p0b) = bindO (Zc7 p0b) (fun (y1:Int)=>iteB (leI 97 y1) (iteB (leI y1 122) ((some Bool.true)) (iteB (leI 48 y1) ((some (leI y1 57))) ((some Bool.false)))) (iteB (leI 48 y1) ((some (leI y1 57))) ((some Bool.false)))):=by kernel_rfl
abbrev Zbi.ps:List PT:=[.val (.str)]
abbrev Zbi.ros:List (ResultVar × RO):=[(.tmp 2,.own zt37)]
def Zbi.env:Env:={ L:=tlist,G:=glist,C:=[(233,Zdm.en)] }
def Zbi.an:Ann:={ lp:=[(3,[0,3,4]),(5,[0,3,4,5])],jn:=[(7,[0,3,4,5]),(11,[3])],sc:=[],kp:=[] }
def Zbi.code:Code:=Tryz.f194.body.getD .skip
def Zbi (x:ByteArray):zt35:=fnR Zbi.env Zbi.an Zbi.code Zbi.ps Zbi.ros x
noncomputable abbrev Zbi.en:Zda:=entry Zbi.ps Zbi.ros Zbi
theorem Zbi.envC:EnvC Tryz.prog Zbi.env:=(cns (.nilG lay_ok Zbh) Zdm.sat)
theorem Zbi.sat:SatC Tryz.prog glist 194 Zbi.en:=satY (fn:=Tryz.f194) (c:=Zbi.code) (An:=Zbi.an) Zbi.envC (by kernel_rfl) (by kernel_rfl)
noncomputable abbrev Zbi.J:=FJ Zbi.env Zbi.an Zbi.code Zbi.ps Zbi.ros
noncomputable abbrev Zbi.L:=FL Zbi.env Zbi.an Zbi.code Zbi.ps Zbi.ros
def Zbi.l3 (h0:ByteArray) (h1:Int) (h2:zt24):zt35:=Zbi.L [1,1,0,1,0] (St.mk ((0,(vs h0)) :: ((3,(V.arr 0)) :: ((4,(V.val zt9 h1)) :: []))) ((0,(some (Bx.rows zt64 h2))) :: []) 1)
def Zbi.l5 (h0:ByteArray) (h1 h2:Int) (h3:zt24):zt35:=Zbi.L [1,1,0,1,0,0,1,0,1,0,0] (St.mk ((0,(vs h0)) :: ((3,(V.arr 0)) :: ((4,(V.val zt9 h1)) :: ((5,(V.val zt9 h2)) :: [])))) ((0,(some (Bx.rows zt64 h3))) :: []) 1)
def Zbi.j11 (h0:zt24):zt35:=Zbi.J [1,1,1] (St.mk ((3,(V.arr 0)) :: []) ((0,(some (Bx.rows zt64 h0))) :: []) 1)
def Zbi.j7 (h0:ByteArray) (h1 h2:Int) (h3:zt24):zt35:=Zbi.J [1,1,0,1,0,0,1,0,1,1] (St.mk ((0,(vs h0)) :: ((3,(V.arr 0)) :: ((4,(V.val zt9 h1)) :: ((5,(V.val zt9 h2)) :: [])))) ((0,(some (Bx.rows zt64 h3))) :: []) 1)
theorem Zbi.l3_eq (h0:ByteArray) (h1:Int) (h2:zt24):Zbi.l3 h0 h1 h2 = iteB (ltI h1 (lenS h0)) (Zbi.l5 h0 h1 h1 h2) (Zbi.j11 h2):=(Zcg Zbi.envC.ok.nat _ _ _).trans (by kernel_rfl)
theorem Zbi.l5_eq (h0:ByteArray) (h1 h2:Int) (h3:zt24):Zbi.l5 h0 h1 h2 h3 = iteB (ltI h2 (lenS h0)) (bindO (atS h0 h2) (fun (y4:Int)=>bindO (Zdm y4) (fun (y5:Bool)=>iteB y5 (Zbi.l5 h0 h1 (addI .i64 h2 1) h3) (Zbi.j7 h0 h1 h2 h3)))) (Zbi.j7 h0 h1 h2 h3):=(Zcg Zbi.envC.ok.nat _ _ _).trans (by kernel_rfl)
theorem Zbi.j11_eq (h0:zt24):Zbi.j11 h0 = (some h0):=Zdn (by kernel_rfl)
theorem Zbi.j7_eq (h0:ByteArray) (h1 h2:Int) (h3:zt24):Zbi.j7 h0 h1 h2 h3 = iteB (eqI h2 h1) (Zbi.l3 h0 (addI .i64 h1 1) h3) (iteB (Zfs h1 h2 (lenS h0)) (iteB (Zek h3 (((cutS h0 h1 h2),(h1,h2)) :: [])) (Zbi.l3 h0 h2 (appL h3 (((cutS h0 h1 h2),(h1,h2)) :: []))) (none)) (none)):=Zdn (by kernel_rfl)
theorem spec_Words_eq (p0s:ByteArray):Zbi (p0s) = Zbi.l3 p0s 0 []:=by kernel_rfl
abbrev Zcn.ps:List PT:=[.val (.str)]
abbrev Zcn.ros:List (ResultVar × RO):=[(.tmp 2,.val (.str))]
def Zcn.env:Env:={ L:=tlist,G:=glist,C:=[(270,Zc7.en)] }
def Zcn.an:Ann:={ lp:=[(3,[0,3,4])],jn:=[(6,[3])],sc:=[],kp:=[] }
def Zcn.code:Code:=Tryz.f234.body.getD .skip
def Zcn (x:ByteArray):zt1:=fnR Zcn.env Zcn.an Zcn.code Zcn.ps Zcn.ros x
noncomputable abbrev Zcn.en:Zda:=entry Zcn.ps Zcn.ros Zcn
theorem Zcn.envC:EnvC Tryz.prog Zcn.env:=(cns (.nilG lay_ok Zbh) Zc7.sat)
theorem Zcn.sat:SatC Tryz.prog glist 234 Zcn.en:=satY (fn:=Tryz.f234) (c:=Zcn.code) (An:=Zcn.an) Zcn.envC (by kernel_rfl) (by kernel_rfl)
noncomputable abbrev Zcn.J:=FJ Zcn.env Zcn.an Zcn.code Zcn.ps Zcn.ros
noncomputable abbrev Zcn.L:=FL Zcn.env Zcn.an Zcn.code Zcn.ps Zcn.ros
def Zcn.l3 (h0:ByteArray) (h1:Int) (h2:(List Int)):zt1:=Zcn.L [1,1,0,1,0] (St.mk ((0,(vs h0)) :: ((3,(V.arr 0)) :: ((4,(V.val zt9 h1)) :: []))) ((0,(some (Bx.rows zt8 h2))) :: []) 1)
def Zcn.j6 (h0:(List Int)):zt1:=Zcn.J [1,1,1] (St.mk ((3,(V.arr 0)) :: []) ((0,(some (Bx.rows zt8 h0))) :: []) 1)
theorem Zcn.l3_eq (h0:ByteArray) (h1:Int) (h2:(List Int)):Zcn.l3 h0 h1 h2 = iteB (ltI h1 (lenS h0)) (bindO (atS h0 h1) (fun (y3:Int)=>bindO (Zc7 y3) (fun (y4:Int)=>iteB (Zek h2 (y4 :: [])) (Zcn.l3 h0 (addI .i64 h1 1) (appL h2 (y4 :: []))) (none)))) (Zcn.j6 h2):=(Zcg Zcn.envC.ok.nat _ _ _).trans (by kernel_rfl)
theorem Zcn.j6_eq (h0:(List Int)):Zcn.j6 h0 = (some (strOf h0)):=Zdn (by kernel_rfl)
theorem spec_Fold_eq (p0s:ByteArray):Zcn (p0s) = Zcn.l3 p0s 0 []:=by kernel_rfl
abbrev Zbz.ps:List PT:=[.val (.str)]
abbrev Zbz.ros:List (ResultVar × RO):=[(.tmp 2,.val (.bool))]
def Zbz.env:Env:={ L:=tlist,G:=glist,C:=[] }
def Zbz.an:Ann:={ lp:=[(3,[0,3,4])],jn:=[(7,[])],sc:=[],kp:=[] }
def Zbz.code:Code:=Tryz.f235.body.getD .skip
def Zbz (x:ByteArray):(Option Bool):=fnR Zbz.env Zbz.an Zbz.code Zbz.ps Zbz.ros x
noncomputable abbrev Zbz.en:Zda:=entry Zbz.ps Zbz.ros Zbz
theorem Zbz.envC:EnvC Tryz.prog Zbz.env:=(.nilG lay_ok Zbh)
theorem Zbz.sat:SatC Tryz.prog glist 235 Zbz.en:=satY (fn:=Tryz.f235) (c:=Zbz.code) (An:=Zbz.an) Zbz.envC (by kernel_rfl) (by kernel_rfl)
noncomputable abbrev Zbz.J:=FJ Zbz.env Zbz.an Zbz.code Zbz.ps Zbz.ros
noncomputable abbrev Zbz.L:=FL Zbz.env Zbz.an Zbz.code Zbz.ps Zbz.ros
def Zbz.l3 (h0:ByteArray) (h1:Int) (h2:(List ByteArray)):(Option Bool):=Zbz.L [1,1,0,1,0] (St.mk ((0,(vs h0)) :: ((3,(V.arr 0)) :: ((4,(V.val zt9 h1)) :: []))) ((0,(some (Bx.rows Ty.str h2))) :: []) 1)
def Zbz.j7:(Option Bool):=Zbz.J [1,1,1] (St.mk [] [] 0)
theorem Zbz.l3_eq (h0:ByteArray) (h1:Int) (h2:(List ByteArray)):Zbz.l3 h0 h1 h2 = iteB (ltI h1 (lenL h2)) (iteB (leI 0 h1) (iteB (ltI h1 (lenL h2)) (bindO (atL h2 h1) (fun (y3:ByteArray)=>iteB (eqS y3 h0) ((some Bool.true)) (Zbz.l3 h0 (addI .i64 h1 1) h2))) (none)) (none)) (Zbz.j7):=(Zcg Zbz.envC.ok.nat _ _ _).trans (by kernel_rfl)
theorem Zbz.j7_eq:Zbz.j7  = (some Bool.false):=Zdn (by kernel_rfl)
theorem spec_l1Stop_eq (p0s:ByteArray):Zbz (p0s) = Zbz.l3 p0s 0 ((bs [97]) :: ((bs [97,110]) :: ((bs [97,110,100]) :: ((bs [111,102]) :: ((bs [116,104,101]) :: ((bs [116,111]) :: [])))))):=by kernel_rfl
abbrev Zcv.ps:List PT:=[.val (.str)]
abbrev Zcv.ros:List (ResultVar × RO):=[(.tmp 2,.val (.str))]
def Zcv.env:Env:={ L:=tlist,G:=glist,C:=[(234,Zcn.en),(235,Zbz.en)] }
def Zcv.an:Ann:={ lp:=[],jn:=[(4,[3]),(7,[3])],sc:=[],kp:=[] }
def Zcv.code:Code:=Tryz.f195.body.getD .skip
def Zcv (x:ByteArray):zt1:=fnR Zcv.env Zcv.an Zcv.code Zcv.ps Zcv.ros x
noncomputable abbrev Zcv.en:Zda:=entry Zcv.ps Zcv.ros Zcv
theorem Zcv.envC:EnvC Tryz.prog Zcv.env:=(cns (cns (.nilG lay_ok Zbh) Zbz.sat) Zcn.sat)
theorem Zcv.sat:SatC Tryz.prog glist 195 Zcv.en:=satY (fn:=Tryz.f195) (c:=Zcv.code) (An:=Zcv.an) Zcv.envC (by kernel_rfl) (by kernel_rfl)
noncomputable abbrev Zcv.J:=FJ Zcv.env Zcv.an Zcv.code Zcv.ps Zcv.ros
def Zcv.j4 (h0:ByteArray):zt1:=Zcv.J [1,1,1] (St.mk ((3,(vs h0)) :: []) [] 0)
def Zcv.j7 (h0:ByteArray):zt1:=Zcv.J [1,1,1,1,1] (St.mk ((3,(vs h0)) :: []) [] 0)
theorem Zcv.j4_eq (h0:ByteArray):Zcv.j4 h0 = iteB (ltI 3 (lenS h0)) (bindO (atS h0 (subI .i64 (lenS h0) 1)) (fun (y1:Int)=>iteB (eqI y1 115) (bindO (atS h0 (subI .i64 (lenS h0) 2)) (fun (y2:Int)=>iteB (notB (eqI y2 115)) (iteB (Zfs 0 (subI .i64 (lenS h0) 1) (lenS h0)) (Zcv.j7 (cutS h0 0 (subI .i64 (lenS h0) 1))) (none)) (Zcv.j7 h0))) (Zcv.j7 h0))) (Zcv.j7 h0):=Zdn (by kernel_rfl)
theorem Zcv.j7_eq (h0:ByteArray):Zcv.j7 h0 = bindO (Zbz h0) (fun (y1:Bool)=>iteB y1 ((some (bs []))) ((some h0))):=Zdn (by kernel_rfl)
theorem spec_Stem_eq (p0s:ByteArray):Zcv (p0s) = bindO (Zcn p0s) (fun (y1:ByteArray)=>iteB (ltI 12 (lenS y1)) (iteB (Zfs 0 12 (lenS y1)) (Zcv.j4 (cutS y1 0 12)) (none)) (Zcv.j4 y1)):=by kernel_rfl
abbrev Zca.ps:List PT:=[.val (.str)]
abbrev Zca.ros:List (ResultVar × RO):=[(.tmp 2,.own (.str))]
def Zca.env:Env:={ L:=tlist,G:=glist,C:=[(194,Zbi.en),(195,Zcv.en)] }
def Zca.an:Ann:={ lp:=[(4,[3,4,5])],jn:=[(7,[3])],sc:=[],kp:=[] }
def Zca.code:Code:=Tryz.f143.body.getD .skip
def Zca (x:ByteArray):zt13:=fnR Zca.env Zca.an Zca.code Zca.ps Zca.ros x
noncomputable abbrev Zca.en:Zda:=entry Zca.ps Zca.ros Zca
theorem Zca.envC:EnvC Tryz.prog Zca.env:=(cns (cns (.nilG lay_ok Zbh) Zcv.sat) Zbi.sat)
theorem Zca.sat:SatC Tryz.prog glist 143 Zca.en:=satY (fn:=Tryz.f143) (c:=Zca.code) (An:=Zca.an) Zca.envC (by kernel_rfl) (by kernel_rfl)
noncomputable abbrev Zca.J:=FJ Zca.env Zca.an Zca.code Zca.ps Zca.ros
noncomputable abbrev Zca.L:=FL Zca.env Zca.an Zca.code Zca.ps Zca.ros
def Zca.l4 (h0:Int) (h1:zt24) (h2:(List ByteArray)):zt13:=Zca.L [1,1,1,0,1,0] (St.mk ((3,(V.arr 0)) :: ((4,(V.arr 1)) :: ((5,(V.val zt9 h0)) :: []))) ((1,(some (Bx.rows zt64 h1))) :: ((0,(some (Bx.rows Ty.str h2))) :: [])) 2)
def Zca.j7 (h0:(List ByteArray)):zt13:=Zca.J [1,1,1,1] (St.mk ((3,(V.arr 0)) :: []) ((0,(some (Bx.rows Ty.str h0))) :: []) 1)
theorem Zca.l4_eq (h0:Int) (h1:zt24) (h2:(List ByteArray)):Zca.l4 h0 h1 h2 = iteB (ltI h0 (lenL h1)) (iteB (leI 0 h0) (iteB (ltI h0 (lenL h1)) (bindO (atL h1 h0) (fun (y3:zt12)=>bindO (Zcv y3.1) (fun (y4:ByteArray)=>iteB (Zek h2 (y4 :: [])) (Zca.l4 (addI .i64 h0 1) h1 (appL h2 (y4 :: []))) (none)))) (none)) (none)) (Zca.j7 h2):=(Zcg Zca.envC.ok.nat _ _ _).trans (by kernel_rfl)
theorem Zca.j7_eq (h0:(List ByteArray)):Zca.j7 h0 = (some h0):=Zdn (by kernel_rfl)
theorem spec_Terms_eq (p0s:ByteArray):Zca (p0s) = bindO (Zbi p0s) (fun (y1:zt24)=>Zca.l4 0 y1 []):=by kernel_rfl
abbrev Zcj.ps:List PT:=[.val zt66,.val (.str),.val (.str)]
abbrev Zcj.ros:List (ResultVar × RO):=[(.tmp 6,.val (.int .i64)),(.tmp 7,.val (.bool))]
def Zcj.env:Env:={ L:=tlist,G:=glist,C:=[] }
def Zcj.an:Ann:={ lp:=[(2,[0,1,2,8])],jn:=[(4,[0,1,2,8])],sc:=[(4,[(0,true),(1,true),(2,false),(3,false),(4,false),(5,false),(6,true),(7,true),(8,true),(9,true),(11,true),(10,false),(12,false),(13,false),(14,false),(15,true),(16,true),(17,true),(18,true),(20,true),(23,true),(19,false),(21,false),(22,false),(24,false)])],kp:=[] }
def Zcj.code:Code:=Tryz.f196.body.getD .skip
def Zcj (x:zt52 × ByteArray × ByteArray):zt7:=fnR Zcj.env Zcj.an Zcj.code Zcj.ps Zcj.ros x
noncomputable abbrev Zcj.en:Zda:=entry Zcj.ps Zcj.ros Zcj
theorem Zcj.envC:EnvC Tryz.prog Zcj.env:=(.nilG lay_ok Zbh)
theorem Zcj.sat:SatC Tryz.prog glist 196 Zcj.en:=satY (fn:=Tryz.f196) (c:=Zcj.code) (An:=Zcj.an) Zcj.envC (by kernel_rfl) (by kernel_rfl)
noncomputable abbrev Zcj.J:=FJ Zcj.env Zcj.an Zcj.code Zcj.ps Zcj.ros
noncomputable abbrev Zcj.L:=FL Zcj.env Zcj.an Zcj.code Zcj.ps Zcj.ros
def Zcj.l2 (h0:zt52) (h1 h2:ByteArray) (h3:Int):zt7:=Zcj.L [1,1,0,0] (St.mk ((0,(V.val zt74 h0)) :: ((1,(vs h1)) :: ((2,(vs h2)) :: ((8,(V.val zt9 h3)) :: [])))) [] 0)
def Zcj.j4 (h0:zt52) (h1 h2:ByteArray) (h3:Int):zt7:=Zcj.J [1,1,1] (St.mk ((0,(V.val zt74 h0)) :: ((1,(vs h1)) :: ((2,(vs h2)) :: ((8,(V.val zt9 h3)) :: [])))) [] 0)
theorem Zcj.l2_eq (h0:zt52) (h1 h2:ByteArray) (h3:Int):Zcj.l2 h0 h1 h2 h3 = iteB (ltI h3 (lenL h0)) (bindO (atL h0 h3) (fun (y4:zt45)=>iteB (ltS y4.1 h1) (Zcj.l2 h0 h1 h2 (addI .i64 h3 1)) (bindO (atL h0 h3) (fun (y5:zt45)=>iteB (eqS y5.1 h1) (bindO (atL h0 h3) (fun (y6:zt45)=>iteB (ltS y6.2.1 h2) (Zcj.l2 h0 h1 h2 (addI .i64 h3 1)) (Zcj.j4 h0 h1 h2 h3))) (Zcj.j4 h0 h1 h2 h3))))) (Zcj.j4 h0 h1 h2 h3):=(Zcg Zcj.envC.ok.nat _ _ _).trans (by kernel_rfl)
theorem Zcj.j4_eq (h0:zt52) (h1 h2:ByteArray) (h3:Int):Zcj.j4 h0 h1 h2 h3 = iteB (ltI h3 (lenL h0)) (bindO (atL h0 h3) (fun (y4:zt45)=>iteB (eqS y4.1 h1) (bindO (atL h0 h3) (fun (y5:zt45)=>(some (h3,(eqS y5.2.1 h2))))) ((some (h3,Bool.false))))) ((some (h3,Bool.false))):=Zdn (by kernel_rfl)
theorem spec_l4At_eq (p0list:zt52) (p1field p2term:ByteArray):Zcj ((p0list,(p1field,p2term))) = Zcj.l2 p0list p1field p2term 0:=by kernel_rfl
abbrev Zbo.ps:List PT:=[.mv zt59,.val (.str),.val (.str),.val (.int .i64),.val (.int .i64)]
abbrev Zbo.ros:List (ResultVar × RO):=[(.tmp 10,.dp zt59)]
def Zbo.env:Env:={ L:=tlist,G:=glist,dp:=true,C:=[(196,Zcj.en)] }
def Zbo.an:Ann:={ lp:=[],jn:=[(10,[0])],sc:=[],kp:=[],fk:=[(4,(.one 1 true (.one 2 true (.one 8 true (.one 9 true (.or (.one 0 false (.or (.one 3 false (.or (.one 4 false (.or (.one 5 false (.or (.one 6 false (.or (.one 7 false (.one 10 false (.one 11 false (.one 12 false .done)))) (.one 10 false (.one 7 false (.one 11 false (.one 12 false .done)))))) (.one 10 false (.one 6 false (.one 7 false (.one 11 false (.one 12 false .done))))))) (.one 10 false (.one 5 false (.one 6 false (.one 7 false (.one 11 false (.one 12 false .done)))))))) (.or (.one 5 false (.or (.one 4 false (.or (.one 6 false (.or (.one 7 false (.one 10 false (.one 11 false (.one 12 false .done)))) (.one 10 false (.one 7 false (.one 11 false (.one 12 false .done)))))) (.one 10 false (.one 6 false (.one 7 false (.one 11 false (.one 12 false .done))))))) (.or (.one 6 false (.or (.one 4 false (.or (.one 7 false (.one 10 false (.one 11 false (.one 12 false .done)))) (.one 10 false (.one 7 false (.one 11 false (.one 12 false .done)))))) (.one 10 false (.one 4 false (.one 7 false (.one 11 false (.one 12 false .done))))))) (.one 10 false (.or (.one 4 false (.one 6 false (.one 7 false (.one 11 false (.one 12 false .done))))) (.one 6 false (.one 4 false (.one 7 false (.one 11 false (.one 12 false .done)))))))))) (.one 10 false (.or (.one 4 false (.one 5 false (.one 6 false (.one 7 false (.one 11 false (.one 12 false .done)))))) (.one 5 false (.or (.one 4 false (.one 6 false (.one 7 false (.one 11 false (.one 12 false .done))))) (.one 6 false (.one 4 false (.one 7 false (.one 11 false (.one 12 false .done)))))))))))) (.or (.one 5 false (.or (.one 3 false (.or (.one 4 false (.or (.one 6 false (.or (.one 7 false (.one 10 false (.one 11 false (.one 12 false .done)))) (.one 10 false (.one 7 false (.one 11 false (.one 12 false .done)))))) (.one 10 false (.one 6 false (.one 7 false (.one 11 false (.one 12 false .done))))))) (.or (.one 6 false (.or (.one 4 false (.or (.one 7 false (.one 10 false (.one 11 false (.one 12 false .done)))) (.one 10 false (.one 7 false (.one 11 false (.one 12 false .done)))))) (.one 10 false (.one 4 false (.one 7 false (.one 11 false (.one 12 false .done))))))) (.one 10 false (.or (.one 4 false (.one 6 false (.one 7 false (.one 11 false (.one 12 false .done))))) (.one 6 false (.one 4 false (.one 7 false (.one 11 false (.one 12 false .done)))))))))) (.or (.one 6 false (.or (.one 3 false (.or (.one 4 false (.or (.one 7 false (.one 10 false (.one 11 false (.one 12 false .done)))) (.one 10 false (.one 7 false (.one 11 false (.one 12 false .done)))))) (.one 10 false (.one 4 false (.one 7 false (.one 11 false (.one 12 false .done))))))) (.one 10 false (.one 3 false (.one 4 false (.one 7 false (.one 11 false (.one 12 false .done)))))))) (.one 10 false (.or (.one 3 false (.or (.one 4 false (.one 6 false (.one 7 false (.one 11 false (.one 12 false .done))))) (.one 6 false (.one 4 false (.one 7 false (.one 11 false (.one 12 false .done))))))) (.one 6 false (.one 3 false (.one 4 false (.one 7 false (.one 11 false (.one 12 false .done))))))))))) (.one 10 false (.or (.one 3 false (.or (.one 4 false (.one 5 false (.one 6 false (.one 7 false (.one 11 false (.one 12 false .done)))))) (.one 5 false (.or (.one 4 false (.one 6 false (.one 7 false (.one 11 false (.one 12 false .done))))) (.one 6 false (.one 4 false (.one 7 false (.one 11 false (.one 12 false .done))))))))) (.one 5 false (.or (.one 3 false (.or (.one 4 false (.one 6 false (.one 7 false (.one 11 false (.one 12 false .done))))) (.one 6 false (.one 4 false (.one 7 false (.one 11 false (.one 12 false .done))))))) (.one 6 false (.one 3 false (.one 4 false (.one 7 false (.one 11 false (.one 12 false .done))))))))))))) (.or (.one 3 false (.or (.one 0 false (.or (.one 4 false (.or (.one 5 false (.or (.one 6 false (.or (.one 7 false (.one 10 false (.one 11 false (.one 12 false .done)))) (.one 10 false (.one 7 false (.one 11 false (.one 12 false .done)))))) (.one 10 false (.one 6 false (.one 7 false (.one 11 false (.one 12 false .done))))))) (.one 10 false (.one 5 false (.one 6 false (.one 7 false (.one 11 false (.one 12 false .done)))))))) (.or (.one 5 false (.or (.one 4 false (.or (.one 6 false (.or (.one 7 false (.one 10 false (.one 11 false (.one 12 false .done)))) (.one 10 false (.one 7 false (.one 11 false (.one 12 false .done)))))) (.one 10 false (.one 6 false (.one 7 false (.one 11 false (.one 12 false .done))))))) (.or (.one 6 false (.or (.one 4 false (.or (.one 7 false (.one 10 false (.one 11 false (.one 12 false .done)))) (.one 10 false (.one 7 false (.one 11 false (.one 12 false .done)))))) (.one 10 false (.one 4 false (.one 7 false (.one 11 false (.one 12 false .done))))))) (.one 10 false (.or (.one 4 false (.one 6 false (.one 7 false (.one 11 false (.one 12 false .done))))) (.one 6 false (.one 4 false (.one 7 false (.one 11 false (.one 12 false .done)))))))))) (.one 10 false (.or (.one 4 false (.one 5 false (.one 6 false (.one 7 false (.one 11 false (.one 12 false .done)))))) (.one 5 false (.or (.one 4 false (.one 6 false (.one 7 false (.one 11 false (.one 12 false .done))))) (.one 6 false (.one 4 false (.one 7 false (.one 11 false (.one 12 false .done)))))))))))) (.or (.one 5 false (.or (.one 0 false (.or (.one 4 false (.or (.one 6 false (.or (.one 7 false (.one 10 false (.one 11 false (.one 12 false .done)))) (.one 10 false (.one 7 false (.one 11 false (.one 12 false .done)))))) (.one 10 false (.one 6 false (.one 7 false (.one 11 false (.one 12 false .done))))))) (.or (.one 6 false (.or (.one 4 false (.or (.one 7 false (.one 10 false (.one 11 false (.one 12 false .done)))) (.one 10 false (.one 7 false (.one 11 false (.one 12 false .done)))))) (.one 10 false (.one 4 false (.one 7 false (.one 11 false (.one 12 false .done))))))) (.one 10 false (.or (.one 4 false (.one 6 false (.one 7 false (.one 11 false (.one 12 false .done))))) (.one 6 false (.one 4 false (.one 7 false (.one 11 false (.one 12 false .done)))))))))) (.or (.one 6 false (.or (.one 0 false (.or (.one 4 false (.or (.one 7 false (.one 10 false (.one 11 false (.one 12 false .done)))) (.one 10 false (.one 7 false (.one 11 false (.one 12 false .done)))))) (.one 10 false (.one 4 false (.one 7 false (.one 11 false (.one 12 false .done))))))) (.one 10 false (.one 0 false (.one 4 false (.one 7 false (.one 11 false (.one 12 false .done)))))))) (.one 10 false (.or (.one 0 false (.or (.one 4 false (.one 6 false (.one 7 false (.one 11 false (.one 12 false .done))))) (.one 6 false (.one 4 false (.one 7 false (.one 11 false (.one 12 false .done))))))) (.one 6 false (.one 0 false (.one 4 false (.one 7 false (.one 11 false (.one 12 false .done))))))))))) (.one 10 false (.or (.one 0 false (.or (.one 4 false (.one 5 false (.one 6 false (.one 7 false (.one 11 false (.one 12 false .done)))))) (.one 5 false (.or (.one 4 false (.one 6 false (.one 7 false (.one 11 false (.one 12 false .done))))) (.one 6 false (.one 4 false (.one 7 false (.one 11 false (.one 12 false .done))))))))) (.one 5 false (.or (.one 0 false (.or (.one 4 false (.one 6 false (.one 7 false (.one 11 false (.one 12 false .done))))) (.one 6 false (.one 4 false (.one 7 false (.one 11 false (.one 12 false .done))))))) (.one 6 false (.one 0 false (.one 4 false (.one 7 false (.one 11 false (.one 12 false .done))))))))))))) (.or (.one 5 false (.or (.one 0 false (.or (.one 3 false (.or (.one 4 false (.or (.one 6 false (.or (.one 7 false (.one 10 false (.one 11 false (.one 12 false .done)))) (.one 10 false (.one 7 false (.one 11 false (.one 12 false .done)))))) (.one 10 false (.one 6 false (.one 7 false (.one 11 false (.one 12 false .done))))))) (.or (.one 6 false (.or (.one 4 false (.or (.one 7 false (.one 10 false (.one 11 false (.one 12 false .done)))) (.one 10 false (.one 7 false (.one 11 false (.one 12 false .done)))))) (.one 10 false (.one 4 false (.one 7 false (.one 11 false (.one 12 false .done))))))) (.one 10 false (.or (.one 4 false (.one 6 false (.one 7 false (.one 11 false (.one 12 false .done))))) (.one 6 false (.one 4 false (.one 7 false (.one 11 false (.one 12 false .done)))))))))) (.or (.one 6 false (.or (.one 3 false (.or (.one 4 false (.or (.one 7 false (.one 10 false (.one 11 false (.one 12 false .done)))) (.one 10 false (.one 7 false (.one 11 false (.one 12 false .done)))))) (.one 10 false (.one 4 false (.one 7 false (.one 11 false (.one 12 false .done))))))) (.one 10 false (.one 3 false (.one 4 false (.one 7 false (.one 11 false (.one 12 false .done)))))))) (.one 10 false (.or (.one 3 false (.or (.one 4 false (.one 6 false (.one 7 false (.one 11 false (.one 12 false .done))))) (.one 6 false (.one 4 false (.one 7 false (.one 11 false (.one 12 false .done))))))) (.one 6 false (.one 3 false (.one 4 false (.one 7 false (.one 11 false (.one 12 false .done))))))))))) (.or (.one 3 false (.or (.one 0 false (.or (.one 4 false (.or (.one 6 false (.or (.one 7 false (.one 10 false (.one 11 false (.one 12 false .done)))) (.one 10 false (.one 7 false (.one 11 false (.one 12 false .done)))))) (.one 10 false (.one 6 false (.one 7 false (.one 11 false (.one 12 false .done))))))) (.or (.one 6 false (.or (.one 4 false (.or (.one 7 false (.one 10 false (.one 11 false (.one 12 false .done)))) (.one 10 false (.one 7 false (.one 11 false (.one 12 false .done)))))) (.one 10 false (.one 4 false (.one 7 false (.one 11 false (.one 12 false .done))))))) (.one 10 false (.or (.one 4 false (.one 6 false (.one 7 false (.one 11 false (.one 12 false .done))))) (.one 6 false (.one 4 false (.one 7 false (.one 11 false (.one 12 false .done)))))))))) (.or (.one 6 false (.or (.one 0 false (.or (.one 4 false (.or (.one 7 false (.one 10 false (.one 11 false (.one 12 false .done)))) (.one 10 false (.one 7 false (.one 11 false (.one 12 false .done)))))) (.one 10 false (.one 4 false (.one 7 false (.one 11 false (.one 12 false .done))))))) (.one 10 false (.one 0 false (.one 4 false (.one 7 false (.one 11 false (.one 12 false .done)))))))) (.one 10 false (.or (.one 0 false (.or (.one 4 false (.one 6 false (.one 7 false (.one 11 false (.one 12 false .done))))) (.one 6 false (.one 4 false (.one 7 false (.one 11 false (.one 12 false .done))))))) (.one 6 false (.one 0 false (.one 4 false (.one 7 false (.one 11 false (.one 12 false .done))))))))))) (.or (.one 6 false (.or (.one 0 false (.or (.one 3 false (.or (.one 4 false (.or (.one 7 false (.one 10 false (.one 11 false (.one 12 false .done)))) (.one 10 false (.one 7 false (.one 11 false (.one 12 false .done)))))) (.one 10 false (.one 4 false (.one 7 false (.one 11 false (.one 12 false .done))))))) (.one 10 false (.one 3 false (.one 4 false (.one 7 false (.one 11 false (.one 12 false .done)))))))) (.or (.one 3 false (.or (.one 0 false (.or (.one 4 false (.or (.one 7 false (.one 10 false (.one 11 false (.one 12 false .done)))) (.one 10 false (.one 7 false (.one 11 false (.one 12 false .done)))))) (.one 10 false (.one 4 false (.one 7 false (.one 11 false (.one 12 false .done))))))) (.one 10 false (.one 0 false (.one 4 false (.one 7 false (.one 11 false (.one 12 false .done)))))))) (.one 10 false (.or (.one 0 false (.one 3 false (.one 4 false (.one 7 false (.one 11 false (.one 12 false .done)))))) (.one 3 false (.one 0 false (.one 4 false (.one 7 false (.one 11 false (.one 12 false .done))))))))))) (.one 10 false (.or (.one 0 false (.or (.one 3 false (.or (.one 4 false (.one 6 false (.one 7 false (.one 11 false (.one 12 false .done))))) (.one 6 false (.one 4 false (.one 7 false (.one 11 false (.one 12 false .done))))))) (.one 6 false (.one 3 false (.one 4 false (.one 7 false (.one 11 false (.one 12 false .done)))))))) (.or (.one 3 false (.or (.one 0 false (.or (.one 4 false (.one 6 false (.one 7 false (.one 11 false (.one 12 false .done))))) (.one 6 false (.one 4 false (.one 7 false (.one 11 false (.one 12 false .done))))))) (.one 6 false (.one 0 false (.one 4 false (.one 7 false (.one 11 false (.one 12 false .done)))))))) (.one 6 false (.or (.one 0 false (.one 3 false (.one 4 false (.one 7 false (.one 11 false (.one 12 false .done)))))) (.one 3 false (.one 0 false (.one 4 false (.one 7 false (.one 11 false (.one 12 false .done))))))))))))))) (.one 10 false (.or (.one 0 false (.or (.one 3 false (.or (.one 4 false (.one 5 false (.one 6 false (.one 7 false (.one 11 false (.one 12 false .done)))))) (.one 5 false (.or (.one 4 false (.one 6 false (.one 7 false (.one 11 false (.one 12 false .done))))) (.one 6 false (.one 4 false (.one 7 false (.one 11 false (.one 12 false .done))))))))) (.one 5 false (.or (.one 3 false (.or (.one 4 false (.one 6 false (.one 7 false (.one 11 false (.one 12 false .done))))) (.one 6 false (.one 4 false (.one 7 false (.one 11 false (.one 12 false .done))))))) (.one 6 false (.one 3 false (.one 4 false (.one 7 false (.one 11 false (.one 12 false .done)))))))))) (.or (.one 3 false (.or (.one 0 false (.or (.one 4 false (.one 5 false (.one 6 false (.one 7 false (.one 11 false (.one 12 false .done)))))) (.one 5 false (.or (.one 4 false (.one 6 false (.one 7 false (.one 11 false (.one 12 false .done))))) (.one 6 false (.one 4 false (.one 7 false (.one 11 false (.one 12 false .done))))))))) (.one 5 false (.or (.one 0 false (.or (.one 4 false (.one 6 false (.one 7 false (.one 11 false (.one 12 false .done))))) (.one 6 false (.one 4 false (.one 7 false (.one 11 false (.one 12 false .done))))))) (.one 6 false (.one 0 false (.one 4 false (.one 7 false (.one 11 false (.one 12 false .done)))))))))) (.one 5 false (.or (.one 0 false (.or (.one 3 false (.or (.one 4 false (.one 6 false (.one 7 false (.one 11 false (.one 12 false .done))))) (.one 6 false (.one 4 false (.one 7 false (.one 11 false (.one 12 false .done))))))) (.one 6 false (.one 3 false (.one 4 false (.one 7 false (.one 11 false (.one 12 false .done)))))))) (.or (.one 3 false (.or (.one 0 false (.or (.one 4 false (.one 6 false (.one 7 false (.one 11 false (.one 12 false .done))))) (.one 6 false (.one 4 false (.one 7 false (.one 11 false (.one 12 false .done))))))) (.one 6 false (.one 0 false (.one 4 false (.one 7 false (.one 11 false (.one 12 false .done)))))))) (.one 6 false (.or (.one 0 false (.one 3 false (.one 4 false (.one 7 false (.one 11 false (.one 12 false .done)))))) (.one 3 false (.one 0 false (.one 4 false (.one 7 false (.one 11 false (.one 12 false .done))))))))))))))))))))),[0,11,13],[10],[])] }
def Zbo.code:Code:=Tryz.f144.body.getD .skip
def Zbo (x:zt52 × ByteArray × ByteArray × Int × Int):zt63:=fnR Zbo.env Zbo.an Zbo.code Zbo.ps Zbo.ros x
noncomputable abbrev Zbo.en:Zda:=entry Zbo.ps Zbo.ros Zbo
theorem Zbo.envC:EnvC Tryz.prog Zbo.env:=(EnvC.deep (cns (.nilG lay_ok Zbh) Zcj.sat))
theorem Zbo.sat:SatC Tryz.prog glist 144 Zbo.en:=satY (fn:=Tryz.f144) (c:=Zbo.code) (An:=Zbo.an) Zbo.envC (by kernel_rfl) (by kernel_rfl)
noncomputable abbrev Zbo.J:=FJ Zbo.env Zbo.an Zbo.code Zbo.ps Zbo.ros
noncomputable abbrev Zbo.JF:=FF Zbo.env Zbo.an Zbo.code Zbo.ps Zbo.ros
def Zbo.j100004 (h0:Int) (h1 h2:ByteArray) (h3:zt14) (h4:zt52):zt63:=Zbo.JF [1,1,0,1,0,1,0] (St.mk ((0,(V.arr 0)) :: ((11,(V.val zt9 h0)) :: ((13,(V.ptr 1 0)) :: []))) ((1,(some (Bx.cs ((vs h1) :: ((vs h2) :: ((V.arr 2) :: [])))))) :: ((2,(some (Bx.dp zt56 h3))) :: ((0,(some (Bx.dp zt73 h4))) :: []))) 3)
def Zbo.j10 (h0:zt52):zt63:=Zbo.J [1,1,1,1,1,1] (St.mk ((0,(V.arr 0)) :: []) ((0,(some (Bx.dp zt73 h0))) :: []) 1)
theorem Zbo.j100004_eq (h0:Int) (h1 h2:ByteArray) (h3:zt14) (h4:zt52):Zbo.j100004 h0 h1 h2 h3 h4 = iteB (Zfs 0 h0 (lenL h4)) (iteB (eqI 0 0) (iteB (Zek [] (cutL h4 0 h0)) (iteB (Zek (appL [] (cutL h4 0 h0)) ((h1,(h2,h3)) :: [])) (iteB (Zfs h0 (lenL h4) (lenL h4)) (iteB (eqI h0 h0) (iteB (Zek (appL (appL [] (cutL h4 0 h0)) ((h1,(h2,h3)) :: [])) (cutL h4 h0 (lenL h4))) ((some (appL (appL (appL [] (cutL h4 0 h0)) ((h1,(h2,h3)) :: [])) (cutL h4 h0 (lenL h4))))) (none)) (none)) (none)) (none)) (none)) (none)) (none):=(join_forkP (E:=Zbo.env) (A:=Zbo.an) (c:=(Zis Zbo.code [1,1,0,1,0,1,0])) (s:=(St.mk ((0,(V.arr 0)) :: ((11,(V.val zt9 h0)) :: ((13,(V.ptr 1 0)) :: []))) ((1,(some (Bx.cs ((V.val Ty.str h1) :: ((V.val Ty.str h2) :: ((V.arr 2) :: [])))))) :: ((2,(some (Bx.dp zt56 h3))) :: ((0,(some (Bx.dp zt73 h4))) :: []))) 3)) (κ:=(Zgf Zbo.env Zbo.an Zbo.code [1,1,0,1,0,1,0] (retK Zbo.env [.mv zt59,.val (.str),.val (.str),.val (.int .i64),.val (.int .i64)] [(.tmp 10,.dp zt59)]))) [(Zfs 0 h0 (lenL h4)),(eqI 0 0),(Zek [] (cutL h4 0 h0)),(Zek (appL [] (cutL h4 0 h0)) ((h1,(h2,h3)) :: [])),(Zfs h0 (lenL h4) (lenL h4)),(eqI h0 h0),(Zek (appL (appL [] (cutL h4 0 h0)) ((h1,(h2,h3)) :: [])) (cutL h4 h0 (lenL h4)))] ((some (St.mk ((10,(V.arr 0)) :: []) ((0,(some (Bx.dp zt73 (appL (appL (appL [] (cutL h4 0 h0)) ((h1,(h2,h3)) :: [])) (cutL h4 h0 (lenL h4)))))) :: []) 1))) [[0,1,2,4,3,5,6],[0,1,2,4,3,5,6],[0,1,2,4,3,5,6],[0,1,2,3,4,5,6],[0,1,2,4,3,5,6],[0,1,2,4,3,5,6],[0,1,2,3,4,5,6],[0,1,2,4,3,5,6],[0,4,1,2,3,5,6],[0,4,1,2,3,5,6],[0,4,1,2,3,5,6],[0,4,1,2,3,5,6],[0,4,1,2,3,5,6],[0,4,1,2,3,5,6],[0,1,2,3,4,5,6],[0,1,2,4,3,5,6],[0,1,2,4,3,5,6],[0,1,2,3,4,5,6],[0,1,2,4,3,5,6],[0,4,1,2,3,5,6],[0,4,1,2,3,5,6],[0,4,1,2,3,5,6],[0,1,2,3,4,5,6],[0,1,2,4,3,5,6],[0,4,1,2,3,5,6],[4,0,1,2,3,5,6],[4,0,1,2,3,5,6],[4,0,1,2,3,5,6],[4,0,1,2,3,5,6],[4,0,1,2,3,5,6],[4,0,1,2,3,5,6],[4,0,1,2,3,5,6],[4,0,1,2,3,5,6],[4,0,1,2,3,5,6],[4,0,1,2,3,5,6],[0,1,2,3,4,5,6],[0,1,2,4,3,5,6],[0,1,2,4,3,5,6],[0,1,2,4,3,5,6],[0,1,2,3,4,5,6],[0,1,2,4,3,5,6],[0,1,2,4,3,5,6],[0,1,2,3,4,5,6],[0,1,2,4,3,5,6],[0,4,1,2,3,5,6],[0,4,1,2,3,5,6],[0,4,1,2,3,5,6],[0,4,1,2,3,5,6],[0,4,1,2,3,5,6],[0,4,1,2,3,5,6],[0,1,2,3,4,5,6],[0,1,2,4,3,5,6],[0,1,2,4,3,5,6],[0,1,2,3,4,5,6],[0,1,2,4,3,5,6],[0,4,1,2,3,5,6],[0,4,1,2,3,5,6],[0,4,1,2,3,5,6],[0,1,2,3,4,5,6],[0,1,2,4,3,5,6],[0,4,1,2,3,5,6],[0,4,1,2,3,5,6],[0,4,1,2,3,5,6],[0,4,1,2,3,5,6],[0,4,1,2,3,5,6],[0,4,1,2,3,5,6],[0,4,1,2,3,5,6],[0,4,1,2,3,5,6],[0,4,1,2,3,5,6],[0,4,1,2,3,5,6],[0,4,1,2,3,5,6],[0,1,2,3,4,5,6],[0,1,2,4,3,5,6],[0,1,2,4,3,5,6],[0,1,2,3,4,5,6],[0,1,2,4,3,5,6],[0,4,1,2,3,5,6],[0,4,1,2,3,5,6],[0,4,1,2,3,5,6],[0,1,2,3,4,5,6],[0,1,2,4,3,5,6],[0,4,1,2,3,5,6],[4,0,1,2,3,5,6],[4,0,1,2,3,5,6],[4,0,1,2,3,5,6],[4,0,1,2,3,5,6],[0,1,2,3,4,5,6],[0,1,2,4,3,5,6],[0,1,2,4,3,5,6],[0,1,2,3,4,5,6],[0,1,2,4,3,5,6],[0,4,1,2,3,5,6],[0,4,1,2,3,5,6],[0,4,1,2,3,5,6],[0,1,2,3,4,5,6],[0,1,2,4,3,5,6],[0,4,1,2,3,5,6],[0,4,1,2,3,5,6],[0,4,1,2,3,5,6],[0,4,1,2,3,5,6],[0,4,1,2,3,5,6],[0,1,2,3,4,5,6],[0,1,2,4,3,5,6],[0,4,1,2,3,5,6],[4,0,1,2,3,5,6],[0,1,2,3,4,5,6],[0,1,2,4,3,5,6],[0,4,1,2,3,5,6],[0,4,1,2,3,5,6],[4,0,1,2,3,5,6],[4,0,1,2,3,5,6],[4,0,1,2,3,5,6],[4,0,1,2,3,5,6],[4,0,1,2,3,5,6],[4,0,1,2,3,5,6],[4,0,1,2,3,5,6],[4,0,1,2,3,5,6],[4,0,1,2,3,5,6],[4,0,1,2,3,5,6],[4,0,1,2,3,5,6],[4,0,1,2,3,5,6],[4,0,1,2,3,5,6],[4,0,1,2,3,5,6],[4,0,1,2,3,5,6],[4,0,1,2,3,5,6],[4,0,1,2,3,5,6],[4,0,1,2,3,5,6],[4,0,1,2,3,5,6],[4,0,1,2,3,5,6],[4,0,1,2,3,5,6],[4,0,1,2,3,5,6],[4,0,1,2,3,5,6],[4,0,1,2,3,5,6],[4,0,1,2,3,5,6],[4,0,1,2,3,5,6],[4,0,1,2,3,5,6],[4,0,1,2,3,5,6],[4,0,1,2,3,5,6],[4,0,1,2,3,5,6]] (by kernel_rfl) (by kernel_rfl) (by kernel_rfl)).trans (by kernel_rfl)
theorem Zbo.j10_eq (h0:zt52):Zbo.j10 h0 = (some h0):=Zdn (by kernel_rfl)
theorem spec_l4Word_eq (p0list:zt52) (p1field p2term:ByteArray) (p3doc p4at:Int):Zbo ((p0list,(p1field,(p2term,(p3doc,p4at))))) = bindO (Zcj (p0list,(p1field,p2term))) (fun (y5:(Int × Bool))=>iteB (notB y5.2) (Zbo.j100004 y5.1 p1field p2term ((p3doc,(p4at :: [])) :: []) p0list) (iteB (leI 0 y5.1) (iteB (ltI y5.1 (lenL p0list)) (bindO (atL p0list y5.1) (fun (y6:zt45)=>iteB (leI 0 (subI .i64 (lenL y6.2.2) 1)) (iteB (ltI (subI .i64 (lenL y6.2.2) 1) (lenL y6.2.2)) (bindO (atL y6.2.2 (subI .i64 (lenL y6.2.2) 1)) (fun (y7:zt2)=>iteB (eqI y7.1 p3doc) (iteB (leI 0 (subI .i64 (lenL y6.2.2) 1)) (iteB (ltI (subI .i64 (lenL y6.2.2) 1) (lenL y6.2.2)) (bindO (atL y6.2.2 (subI .i64 (lenL y6.2.2) 1)) (fun (y8:zt2)=>iteB (Zek y8.2 (p4at :: [])) (iteB (leI 0 (subI .i64 (lenL y6.2.2) 1)) (iteB (ltI (subI .i64 (lenL y6.2.2) 1) (lenL y6.2.2)) (iteB (eqI (subI .i64 (lenL y6.2.2) 1) (subI .i64 (lenL y6.2.2) 1)) (Zbo.j10 (setL p0list y5.1 (y6.1,(y6.2.1,(setL y6.2.2 (subI .i64 (lenL y6.2.2) 1) (y8.1,(appL y8.2 (p4at :: [])))))))) (none)) (none)) (none)) (none))) (none)) (none)) (iteB (Zek y6.2.2 ((p3doc,(p4at :: [])) :: [])) (iteB (leI 0 y5.1) (iteB (ltI y5.1 (lenL p0list)) (iteB (eqI y5.1 y5.1) (Zbo.j10 (setL p0list y5.1 (y6.1,(y6.2.1,(appL y6.2.2 ((p3doc,(p4at :: [])) :: [])))))) (none)) (none)) (none)) (none)))) (none)) (none))) (none)) (none))):=by kernel_rfl
abbrev Za6.ps:List PT:=[.val zt42,.mv zt59,.val zt50]
abbrev Za6.ros:List (ResultVar × RO):=[(.tmp 6,.dp zt59)]
def Za6.env:Env:={ L:=tlist,G:=glist,dp:=true,C:=[(50,Zc9.en),(143,Zca.en),(144,Zbo.en)] }
def Za6.an:Ann:={ lp:=[(2,[0,1,5,7]),(7,[0,1,5,7,8,9])],jn:=[(3,[0,1,5,7]),(8,[0,1,5,7,8,9]),(11,[1])],sc:=[(10,[(0,true),(1,true),(2,true),(3,true),(4,true),(5,true),(6,true),(7,true),(8,true),(9,true),(10,true),(11,true),(12,true),(13,true),(14,false),(15,false),(16,false)])],kp:=[] }
def Za6.code:Code:=Tryz.f105.body.getD .skip
def Za6 (x:zt24 × zt52 × zt44):zt63:=fnR Za6.env Za6.an Za6.code Za6.ps Za6.ros x
noncomputable abbrev Za6.en:Zda:=entry Za6.ps Za6.ros Za6
theorem Za6.envC:EnvC Tryz.prog Za6.env:=(EnvC.deep (cns (cns (cns (.nilG lay_ok Zbh) Zbo.sat) Zca.sat) Zc9.sat))
theorem Za6.sat:SatC Tryz.prog glist 105 Za6.en:=satY (fn:=Tryz.f105) (c:=Za6.code) (An:=Za6.an) Za6.envC (by kernel_rfl) (by kernel_rfl)
noncomputable abbrev Za6.J:=FJ Za6.env Za6.an Za6.code Za6.ps Za6.ros
noncomputable abbrev Za6.L:=FL Za6.env Za6.an Za6.code Za6.ps Za6.ros
def Za6.l2 (h0:zt24) (h1 h2:Int) (h3:ByteArray) (h4:zt22) (h5:zt52):zt63:=Za6.L [1,0,1,0] (St.mk ((0,(V.val zt69 h0)) :: ((1,(V.arr 0)) :: ((5,(V.ptr 1 0)) :: ((7,(V.val zt9 h1)) :: [])))) ((1,(some (Bx.cs ((V.val zt9 h2) :: ((vs h3) :: ((V.val zt20 h4) :: [])))))) :: ((0,(some (Bx.dp zt73 h5))) :: [])) 2)
def Za6.j3 (h0:zt24) (h1 h2:Int) (h3:ByteArray) (h4:zt22) (h5:zt52):zt63:=Za6.J [1,0,1,0,0,1,1] (St.mk ((0,(V.val zt69 h0)) :: ((1,(V.arr 0)) :: ((5,(V.ptr 1 0)) :: ((7,(V.val zt9 h1)) :: [])))) ((1,(some (Bx.cs ((V.val zt9 h2) :: ((vs h3) :: ((V.val zt20 h4) :: [])))))) :: ((0,(some (Bx.dp zt73 h5))) :: [])) 2)
def Za6.l7 (h0:zt24) (h1 h2:Int) (h3:(List ByteArray)) (h4:Int) (h5:ByteArray) (h6:zt22) (h7:zt52):zt63:=Za6.L [1,0,1,0,0,1,0,0,1,1,1,0] (St.mk ((0,(V.val zt69 h0)) :: ((1,(V.arr 0)) :: ((5,(V.ptr 1 0)) :: ((7,(V.val zt9 h1)) :: ((8,(V.arr 2)) :: ((9,(V.val zt9 h2)) :: [])))))) ((2,(some (Bx.rows Ty.str h3))) :: ((1,(some (Bx.cs ((V.val zt9 h4) :: ((vs h5) :: ((V.val zt20 h6) :: [])))))) :: ((0,(some (Bx.dp zt73 h7))) :: []))) 3)
def Za6.j11 (h0:zt52):zt63:=Za6.J [1,1] (St.mk ((1,(V.arr 0)) :: []) ((0,(some (Bx.dp zt73 h0))) :: []) 1)
def Za6.j8 (h0:zt24) (h1 h2:Int) (h3:(List ByteArray)) (h4:Int) (h5:ByteArray) (h6:zt22) (h7:zt52):zt63:=Za6.J [1,0,1,0,0,1,0,0,1,1,1,0,0,1,1] (St.mk ((0,(V.val zt69 h0)) :: ((1,(V.arr 0)) :: ((5,(V.ptr 1 0)) :: ((7,(V.val zt9 h1)) :: ((8,(V.arr 2)) :: ((9,(V.val zt9 h2)) :: [])))))) ((2,(some (Bx.rows Ty.str h3))) :: ((1,(some (Bx.cs ((V.val zt9 h4) :: ((vs h5) :: ((V.val zt20 h6) :: [])))))) :: ((0,(some (Bx.dp zt73 h7))) :: []))) 3)
theorem Za6.l2_eq (h0:zt24) (h1 h2:Int) (h3:ByteArray) (h4:zt22) (h5:zt52):Za6.l2 h0 h1 h2 h3 h4 h5 = iteB (ltI h1 (lenL h4)) (bindO (atL h4 h1) (fun (y6:zt10)=>bindO (Zc9 (h0,(y6.1,1))) (fun (y7:Bool)=>iteB (notB y7) (Za6.j3 h0 h1 h2 h3 h4 h5) (bindO (atL h4 h1) (fun (y8:zt10)=>bindO (Zca y8.2) (fun (y9:(List ByteArray))=>Za6.l7 h0 h1 0 y9 h2 h3 h4 h5)))))) (Za6.j11 h5):=(Zcg Za6.envC.ok.nat _ _ _).trans (by kernel_rfl)
theorem Za6.j3_eq (h0:zt24) (h1 h2:Int) (h3:ByteArray) (h4:zt22) (h5:zt52):Za6.j3 h0 h1 h2 h3 h4 h5 = Za6.l2 h0 (addI .i64 h1 1) h2 h3 h4 h5:=Zdn (by kernel_rfl)
theorem Za6.l7_eq (h0:zt24) (h1 h2:Int) (h3:(List ByteArray)) (h4:Int) (h5:ByteArray) (h6:zt22) (h7:zt52):Za6.l7 h0 h1 h2 h3 h4 h5 h6 h7 = iteB (ltI h2 (lenL h3)) (iteB (leI 0 h2) (iteB (ltI h2 (lenL h3)) (bindO (atL h3 h2) (fun (y8:ByteArray)=>iteB (notB (eqS y8 (bs []))) (bindO (atL h6 h1) (fun (y9:zt10)=>iteB (leI 0 h2) (iteB (ltI h2 (lenL h3)) (bindO (atL h3 h2) (fun (y10:ByteArray)=>bindO (Zbo (h7,(y9.1,(y10,(h4,h2))))) (fun (y11:zt52)=>Za6.j8 h0 h1 h2 h3 h4 h5 h6 y11))) (none)) (none))) (Za6.j8 h0 h1 h2 h3 h4 h5 h6 h7))) (none)) (none)) (Za6.j3 h0 h1 h4 h5 h6 h7):=(Zcg Za6.envC.ok.nat _ _ _).trans (by kernel_rfl)
theorem Za6.j11_eq (h0:zt52):Za6.j11 h0 = (some h0):=Zdn (by kernel_rfl)
theorem Za6.j8_eq (h0:zt24) (h1 h2:Int) (h3:(List ByteArray)) (h4:Int) (h5:ByteArray) (h6:zt22) (h7:zt52):Za6.j8 h0 h1 h2 h3 h4 h5 h6 h7 = Za6.l7 h0 h1 (addI .i64 h2 1) h3 h4 h5 h6 h7:=Zdn (by kernel_rfl)
theorem spec_l4Doc_eq (p0fields:zt24) (p1list:zt52) (p2r:zt44):Za6 ((p0fields,(p1list,p2r))) = Za6.l2 p0fields 0 p2r.1 p2r.2.1 p2r.2.2 p1list:=by kernel_rfl
abbrev Zbq.ps:List PT:=[.val zt42,.val zt55]
abbrev Zbq.ros:List (ResultVar × RO):=[(.tmp 4,.dp zt59)]
def Zbq.env:Env:={ L:=tlist,G:=glist,dp:=true,C:=[(105,Za6.en)] }
def Zbq.an:Ann:={ lp:=[(3,[0,1,5,6])],jn:=[(6,[5])],sc:=[],kp:=[] }
def Zbq.code:Code:=Tryz.f58.body.getD .skip
def Zbq (x:zt24 × zt51):zt63:=fnR Zbq.env Zbq.an Zbq.code Zbq.ps Zbq.ros x
noncomputable abbrev Zbq.en:Zda:=entry Zbq.ps Zbq.ros Zbq
theorem Zbq.envC:EnvC Tryz.prog Zbq.env:=(EnvC.deep (cns (.nilG lay_ok Zbh) Za6.sat))
theorem Zbq.sat:SatC Tryz.prog glist 58 Zbq.en:=satY (fn:=Tryz.f58) (c:=Zbq.code) (An:=Zbq.an) Zbq.envC (by kernel_rfl) (by kernel_rfl)
noncomputable abbrev Zbq.J:=FJ Zbq.env Zbq.an Zbq.code Zbq.ps Zbq.ros
noncomputable abbrev Zbq.L:=FL Zbq.env Zbq.an Zbq.code Zbq.ps Zbq.ros
def Zbq.l3 (h0:zt24) (h1:zt51) (h2:Int) (h3:zt52):zt63:=Zbq.L [1,1,0,1,0] (St.mk ((0,(V.val zt69 h0)) :: ((1,(V.val zt70 h1)) :: ((5,(V.arr 0)) :: ((6,(V.val zt9 h2)) :: [])))) ((0,(some (Bx.dp zt73 h3))) :: []) 1)
def Zbq.j6 (h0:zt52):zt63:=Zbq.J [1,1,1] (St.mk ((5,(V.arr 0)) :: []) ((0,(some (Bx.dp zt73 h0))) :: []) 1)
theorem Zbq.l3_eq (h0:zt24) (h1:zt51) (h2:Int) (h3:zt52):Zbq.l3 h0 h1 h2 h3 = iteB (ltI h2 (lenL h1)) (bindO (atL h1 h2) (fun (y4:zt44)=>bindO (Za6 (h0,(h3,y4))) (fun (y5:zt52)=>Zbq.l3 h0 h1 (addI .i64 h2 1) y5))) (Zbq.j6 h3):=(Zcg Zbq.envC.ok.nat _ _ _).trans (by kernel_rfl)
theorem Zbq.j6_eq (h0:zt52):Zbq.j6 h0 = (some h0):=Zdn (by kernel_rfl)
theorem spec_l4Made_eq (p0fields:zt24) (p1rows:zt51):Zbq ((p0fields,p1rows)) = Zbq.l3 p0fields p1rows 0 []:=by kernel_rfl
abbrev Za1.ps:List PT:=[.val zt42,.val zt55,.val (.int .i64)]
abbrev Za1.ros:List (ResultVar × RO):=[(.cell 6 27,.mx zt81 1 zt50 [])]
def Za1.env:Env:={ L:=tlist,G:=glist,C:=[(58,Zbq.en)] }
def Za1.an:Ann:={ lp:=[(3,[1,6,7,8])],jn:=[(8,[6,7])],sc:=[(7,[(0,true),(1,true),(2,true),(3,true),(4,true),(5,true),(6,true),(7,false),(8,false),(9,false),(10,false),(11,false),(12,false)])],kp:=[] }
def Za1.code:Code:=Tryz.f139.body.getD .skip
def Za1 (x:zt24 × zt51 × Int):zt78:=fnR Za1.env Za1.an Za1.code Za1.ps Za1.ros x
noncomputable abbrev Za1.en:Zda:=entry Za1.ps Za1.ros Za1
theorem Za1.envC:EnvC Tryz.prog Za1.env:=(cns (.nilG lay_ok Zbh) Zbq.sat)
theorem Za1.sat:SatC Tryz.prog glist 139 Za1.en:=satY (fn:=Tryz.f139) (c:=Za1.code) (An:=Za1.an) Za1.envC (by kernel_rfl) (by kernel_rfl)
noncomputable abbrev Za1.J:=FJ Za1.env Za1.an Za1.code Za1.ps Za1.ros
noncomputable abbrev Za1.L:=FL Za1.env Za1.an Za1.code Za1.ps Za1.ros
def Za1.l3 (h0:zt51) (h1 h2:Int) (h3:zt24) (h4:Int):zt78:=Za1.L [1,1,0,1,0] (St.mk ((1,(V.val zt70 h0)) :: ((6,(V.ptr 0 0)) :: ((7,(V.ptr 1 0)) :: ((8,(V.val zt9 h1)) :: [])))) ((1,(some (Bx.cs ((V.arr 2) :: (V.nil :: (V.nil :: ((V.val zt9 h2) :: []))))))) :: ((2,(some (Bx.rows zt64 h3))) :: ((0,(some (Bx.cs (V.nil :: (V.nil :: (V.nil :: ((V.val zt9 h4) :: []))))))) :: []))) 3)
def Za1.l3_1 (h0:zt51) (h1 h2:Int) (h3:zt51) (h4:zt24) (h5:Int):zt78:=Za1.L [1,1,0,1,0] (St.mk ((1,(V.val zt70 h0)) :: ((6,(V.ptr 0 0)) :: ((7,(V.ptr 1 0)) :: ((8,(V.val zt9 h1)) :: [])))) ((1,(some (Bx.cs ((V.arr 2) :: ((V.arr 3) :: (V.nil :: ((V.val zt9 h2) :: []))))))) :: ((3,(some (Bx.rows zt68 h3))) :: ((2,(some (Bx.rows zt64 h4))) :: ((0,(some (Bx.cs (V.nil :: (V.nil :: (V.nil :: ((V.val zt9 h5) :: []))))))) :: [])))) 4)
def Za1.j8 (h0:Int) (h1:zt24) (h2:Int):zt78:=Za1.J [1,1,1] (St.mk ((6,(V.ptr 0 0)) :: ((7,(V.ptr 1 0)) :: [])) ((1,(some (Bx.cs ((V.arr 2) :: (V.nil :: (V.nil :: ((V.val zt9 h0) :: []))))))) :: ((2,(some (Bx.rows zt64 h1))) :: ((0,(some (Bx.cs (V.nil :: (V.nil :: (V.nil :: ((V.val zt9 h2) :: []))))))) :: []))) 3)
def Za1.j8_1 (h0:Int) (h1:zt51) (h2:zt24) (h3:Int):zt78:=Za1.J [1,1,1] (St.mk ((6,(V.ptr 0 0)) :: ((7,(V.ptr 1 0)) :: [])) ((1,(some (Bx.cs ((V.arr 2) :: ((V.arr 3) :: (V.nil :: ((V.val zt9 h0) :: []))))))) :: ((3,(some (Bx.rows zt68 h1))) :: ((2,(some (Bx.rows zt64 h2))) :: ((0,(some (Bx.cs (V.nil :: (V.nil :: (V.nil :: ((V.val zt9 h3) :: []))))))) :: [])))) 4)
theorem Za1.l3_eq (h0:zt51) (h1 h2:Int) (h3:zt24) (h4:Int):Za1.l3 h0 h1 h2 h3 h4 = iteB (ltI h1 (lenL h0)) (bindO (atL h0 h1) (fun (y5:zt44)=>iteB (Zek [] y5.2.2) (bindO (atL h0 h1) (fun (y6:zt44)=>iteB (Zek [] ((y6.1,(y5.2.1,(appL [] y5.2.2))) :: [])) (Za1.l3_1 h0 (addI .i64 h1 1) h2 ((y6.1,(y5.2.1,(appL [] y5.2.2))) :: []) h3 h4) (none))) (none))) (Za1.j8 h2 h3 h4):=(Zcg Za1.envC.ok.nat _ _ _).trans (by kernel_rfl)
theorem Za1.l3_1_eq (h0:zt51) (h1 h2:Int) (h3:zt51) (h4:zt24) (h5:Int):Za1.l3_1 h0 h1 h2 h3 h4 h5 = iteB (ltI h1 (lenL h0)) (bindO (atL h0 h1) (fun (y6:zt44)=>iteB (Zek [] y6.2.2) (bindO (atL h0 h1) (fun (y7:zt44)=>iteB (Zek h3 ((y7.1,(y6.2.1,(appL [] y6.2.2))) :: [])) (Za1.l3_1 h0 (addI .i64 h1 1) h2 (appL h3 ((y7.1,(y6.2.1,(appL [] y6.2.2))) :: [])) h4 h5) (none))) (none))) (Za1.j8_1 h2 h3 h4 h5):=(Zcg Za1.envC.ok.nat _ _ _).trans (by kernel_rfl)
theorem Za1.j8_eq (h0:Int) (h1:zt24) (h2:Int):Za1.j8 h0 h1 h2 = bindO (Zbq (h1,[])) (fun (y3:zt52)=>(some (h1,([],(y3,h0))))):=Zdn (by kernel_rfl)
theorem Za1.j8_1_eq (h0:Int) (h1:zt51) (h2:zt24) (h3:Int):Za1.j8_1 h0 h1 h2 h3 = bindO (Zbq (h2,h1)) (fun (y4:zt52)=>(some (h2,(h1,(y4,h0))))):=Zdn (by kernel_rfl)
theorem spec_l4Build_eq (p0fields:zt24) (p1rows:zt51) (p2next:Int):Za1 ((p0fields,(p1rows,p2next))) = iteB (Zek [] p0fields) (Za1.l3 p1rows 0 p2next (appL [] p0fields) 0) (none):=by kernel_rfl
abbrev Zaj.ps:List PT:=[.st zt27]
abbrev Zaj.ros:List (ResultVar × RO):=[(.cell 2 27,.mx zt81 1 zt50 [])]
def Zaj.env:Env:={ L:=tlist,G:=glist,C:=[(135,Zco.en),(95,Zap.en),(136,Zaf.en),(137,Zar.en),(138,Zb8.en),(139,Za1.en)] }
def Zaj.an:Ann:={ lp:=[(5,[0,2,3,4,5,6]),(12,[2,3,4,5,8])],jn:=[(10,[0,2,3,4,5]),(16,[2,3,4,5])],sc:=[],kp:=[0],fk:=[(8,(.one 0 true (.one 1 true (.one 2 true (.one 4 true (.one 5 true (.one 6 true (.or (.one 3 false (.one 7 false (.one 8 false (.one 9 false .done)))) (.one 7 false (.one 3 false (.one 8 false (.one 9 false .done))))))))))),[0,2,3,4,5,6,7],[0,2,3,4,5,6],[])] }
def Zaj.code:Code:=Tryz.f94.body.getD .skip
def Zaj (x:zt0):zt79:=fnR Zaj.env Zaj.an Zaj.code Zaj.ps Zaj.ros x
noncomputable abbrev Zaj.en:Zda:=entry Zaj.ps Zaj.ros Zaj
theorem Zaj.envC:EnvC Tryz.prog Zaj.env:=(cns (cns (cns (cns (cns (cns (.nilG lay_ok Zbh) Za1.sat) Zb8.sat) Zar.sat) Zaf.sat) Zap.sat) Zco.sat)
theorem Zaj.sat:SatC Tryz.prog glist 94 Zaj.en:=satY (fn:=Tryz.f94) (c:=Zaj.code) (An:=Zaj.an) Zaj.envC (by kernel_rfl) (by kernel_rfl)
noncomputable abbrev Zaj.J:=FJ Zaj.env Zaj.an Zaj.code Zaj.ps Zaj.ros
noncomputable abbrev Zaj.JF:=FF Zaj.env Zaj.an Zaj.code Zaj.ps Zaj.ros
noncomputable abbrev Zaj.L:=FL Zaj.env Zaj.an Zaj.code Zaj.ps Zaj.ros
def Zaj.l5 (h0:zt24) (h1 h2:Int) (h3:zt51) (h4:Int) (h5:(List Int)) (h6:Int):zt79:=Zaj.L [1,1,1,1,0,1,0] (St.mk ((0,(V.ptr 0 0)) :: ((2,(V.ptr 1 0)) :: ((3,(V.val zt69 h0)) :: ((4,(V.arr 2)) :: ((5,(V.val zt9 h1)) :: ((6,(V.val zt9 h2)) :: [])))))) ((2,(some (Bx.rows zt68 h3))) :: ((1,(some (Bx.cs (V.nil :: (V.nil :: (V.nil :: ((V.val zt9 h4) :: []))))))) :: ((0,(some (Bx.cs ((V.val zt21 h5) :: ((V.val zt9 h6) :: []))))) :: []))) 3)
def Zaj.j100008 (h0:zt24) (h1 h2:Int) (h3:ByteArray) (h4:zt22) (h5:zt51) (h6:Int) (h7:(List Int)) (h8:Int):zt79:=Zaj.JF [1,1,1,1,0,1,0,0,1,0,0,1,0] (St.mk ((0,(V.ptr 0 0)) :: ((2,(V.ptr 1 0)) :: ((3,(V.val zt69 h0)) :: ((4,(V.arr 2)) :: ((5,(V.val zt9 h1)) :: ((6,(V.val zt9 h2)) :: ((7,(V.ptr 3 0)) :: []))))))) ((3,(some (Bx.cs ((vs h3) :: ((V.arr 4) :: []))))) :: ((4,(some (Bx.rows zt6 h4))) :: ((2,(some (Bx.rows zt68 h5))) :: ((1,(some (Bx.cs (V.nil :: (V.nil :: (V.nil :: ((V.val zt9 h6) :: []))))))) :: ((0,(some (Bx.cs ((V.val zt21 h7) :: ((V.val zt9 h8) :: []))))) :: []))))) 5)
def Zaj.j10 (h0:zt24) (h1:Int) (h2:zt51) (h3:Int) (h4:(List Int)) (h5:Int):zt79:=Zaj.J [1,1,1,1,1] (St.mk ((0,(V.ptr 0 0)) :: ((2,(V.ptr 1 0)) :: ((3,(V.val zt69 h0)) :: ((4,(V.arr 2)) :: ((5,(V.val zt9 h1)) :: []))))) ((2,(some (Bx.rows zt68 h2))) :: ((1,(some (Bx.cs (V.nil :: (V.nil :: (V.nil :: ((V.val zt9 h3) :: []))))))) :: ((0,(some (Bx.cs ((V.val zt21 h4) :: ((V.val zt9 h5) :: []))))) :: []))) 3)
def Zaj.l12 (h0:zt24) (h1 h2:Int) (h3:zt51) (h4:Int) (h5:(List Int)) (h6:Int):zt79:=Zaj.L [1,1,1,1,1,0,1,0,1,0] (St.mk ((2,(V.ptr 1 0)) :: ((3,(V.val zt69 h0)) :: ((4,(V.arr 2)) :: ((5,(V.val zt9 h1)) :: ((8,(V.val zt9 h2)) :: []))))) ((2,(some (Bx.rows zt68 h3))) :: ((1,(some (Bx.cs (V.nil :: (V.nil :: (V.nil :: ((V.val zt9 h4) :: []))))))) :: ((0,(some (Bx.cs ((V.val zt21 h5) :: ((V.val zt9 h6) :: []))))) :: []))) 3)
def Zaj.j16 (h0:zt24) (h1:Int) (h2:zt51) (h3:Int) (h4:(List Int)) (h5:Int):zt79:=Zaj.J [1,1,1,1,1,1] (St.mk ((2,(V.ptr 1 0)) :: ((3,(V.val zt69 h0)) :: ((4,(V.arr 2)) :: ((5,(V.val zt9 h1)) :: [])))) ((2,(some (Bx.rows zt68 h2))) :: ((1,(some (Bx.cs (V.nil :: (V.nil :: (V.nil :: ((V.val zt9 h3) :: []))))))) :: ((0,(some (Bx.cs ((V.val zt21 h4) :: ((V.val zt9 h5) :: []))))) :: []))) 3)
theorem Zaj.l5_eq (h0:zt24) (h1 h2:Int) (h3:zt51) (h4:Int) (h5:(List Int)) (h6:Int):Zaj.l5 h0 h1 h2 h3 h4 h5 h6 = iteB (ltI 0 h2) (bindO (Zaf ((h5,h6),h0)) (fun (y7:zt60)=>Zaj.j100008 h0 h1 h2 y7.1.1 y7.1.2 h3 h4 y7.2.1 y7.2.2)) (Zaj.j10 h0 h1 h3 h4 h5 h6):=(Zcg Zaj.envC.ok.nat _ _ _).trans (by kernel_rfl)
theorem Zaj.j100008_eq (h0:zt24) (h1 h2:Int) (h3:ByteArray) (h4:zt22) (h5:zt51) (h6:Int) (h7:(List Int)) (h8:Int):Zaj.j100008 h0 h1 h2 h3 h4 h5 h6 h7 h8 = bindO (Zar (h5,h3)) (fun (y9:zt51)=>iteB (Zek y9 ((h1,(h3,h4)) :: [])) (bindO (Zap ((h7,h8),2)) (fun (y10:zt16)=>Zaj.l5 h0 (addI .i64 (addI .i64 h1 1) y10.1) (subI .i64 h2 1) (appL y9 ((h1,(h3,h4)) :: [])) h6 y10.2.1 y10.2.2)) (none)):=(Zgy (E:=Zaj.env) (A:=Zaj.an) (c:=(Zis Zaj.code [1,1,1,1,0,1,0,0,1,0,0,1,0])) (s:=(St.mk ((0,(V.ptr 0 0)) :: ((2,(V.ptr 1 0)) :: ((3,(V.val zt69 h0)) :: ((4,(V.arr 2)) :: ((5,(V.val zt9 h1)) :: ((6,(V.val zt9 h2)) :: ((7,(V.ptr 3 0)) :: []))))))) ((3,(some (Bx.cs ((V.val Ty.str h3) :: ((V.arr 4) :: []))))) :: ((4,(some (Bx.rows zt6 h4))) :: ((2,(some (Bx.rows zt68 h5))) :: ((1,(some (Bx.cs (V.nil :: (V.nil :: (V.nil :: ((V.val zt9 h6) :: []))))))) :: ((0,(some (Bx.cs ((V.val zt21 h7) :: ((V.val zt9 h8) :: []))))) :: []))))) 5)) (κ:=(Zgf Zaj.env Zaj.an Zaj.code [1,1,1,1,0,1,0,0,1,0,0,1,0] (retK Zaj.env [.st zt27] [(.cell 2 27,.mx zt81 1 zt50 [])]))) (List.replicate 1 (bindO (Zar (h5,h3)) (fun (y9:zt51)=>iteB (Zek y9 ((h1,(h3,h4)) :: [])) ((some (St.mk ((0,(V.ptr 0 0)) :: ((2,(V.ptr 1 0)) :: ((3,(V.val zt69 h0)) :: ((4,(V.arr 2)) :: ((5,(V.val zt9 h1)) :: ((6,(V.val zt9 h2)) :: [])))))) ((2,(some (Bx.rows zt68 (appL y9 ((h1,(h3,h4)) :: []))))) :: ((1,(some (Bx.cs (V.nil :: (V.nil :: (V.nil :: ((V.val zt9 h6) :: []))))))) :: ((0,(some (Bx.cs ((V.val zt21 h7) :: ((V.val zt9 h8) :: []))))) :: []))) 3))) (none)))) (by kernel_rfl) (by kernel_rfl)).trans (by kernel_rfl)
theorem Zaj.j10_eq (h0:zt24) (h1:Int) (h2:zt51) (h3:Int) (h4:(List Int)) (h5:Int):Zaj.j10 h0 h1 h2 h3 h4 h5 = bindO (Zap ((h4,h5),30)) (fun (y6:zt16)=>iteB (eqI y6.1 0) (Zaj.l12 h0 h1 (lenL h2) h2 h3 y6.2.1 y6.2.2) (Zaj.j16 h0 h1 h2 h3 y6.2.1 y6.2.2)):=Zdn (by kernel_rfl)
theorem Zaj.l12_eq (h0:zt24) (h1 h2:Int) (h3:zt51) (h4:Int) (h5:(List Int)) (h6:Int):Zaj.l12 h0 h1 h2 h3 h4 h5 h6 = iteB (ltI h2 8) (bindO (Zb8 h2) (fun (y7:ByteArray)=>iteB (roomS (bs [122]) y7) (iteB (Zek h3 ((h1,((catS (bs [122]) y7),[])) :: [])) (Zaj.l12 h0 (addI .i64 h1 1) (addI .i64 h2 1) (appL h3 ((h1,((catS (bs [122]) y7),[])) :: [])) h4 h5 h6) (none)) (none))) (Zaj.j16 h0 h1 h3 h4 h5 h6):=(Zcg Zaj.envC.ok.nat _ _ _).trans (by kernel_rfl)
theorem Zaj.j16_eq (h0:zt24) (h1:Int) (h2:zt51) (h3:Int) (h4:(List Int)) (h5:Int):Zaj.j16 h0 h1 h2 h3 h4 h5 = bindO (Za1 (h0,(h2,h1))) (fun (y6:zt77)=>(some ((y6.1,(y6.2.1,(y6.2.2.1,y6.2.2.2))),(h4,h5)))):=Zdn (by kernel_rfl)
theorem spec_l11Index_eq (p0r:zt0):Zaj (p0r) = bindO (Zco (p0r.1,p0r.2)) (fun (y1:zt48)=>bindO (Zap ((y1.2.1,y1.2.2),2)) (fun (y2:zt16)=>bindO (Zap ((y2.2.1,y2.2.2),6)) (fun (y3:zt16)=>Zaj.l5 y1.1 y2.1 y3.1 [] 0 y3.2.1 y3.2.2))):=by kernel_rfl
abbrev Zcp.ps:List PT:=[.st zt27,.val (.sl (.int .i64))]
abbrev Zcp.ros:List (ResultVar × RO):=[(.tmp 4,.val (.int .i64))]
def Zcp.env:Env:={ L:=tlist,G:=glist,C:=[(95,Zap.en)] }
def Zcp.an:Ann:={ lp:=[],jn:=[],sc:=[],kp:=[0] }
def Zcp.code:Code:=Tryz.f65.body.getD .skip
def Zcp (x:zt0 × (List Int)):(Option zt16):=fnR Zcp.env Zcp.an Zcp.code Zcp.ps Zcp.ros x
noncomputable abbrev Zcp.en:Zda:=entry Zcp.ps Zcp.ros Zcp
theorem Zcp.envC:EnvC Tryz.prog Zcp.env:=(cns (.nilG lay_ok Zbh) Zap.sat)
theorem Zcp.sat:SatC Tryz.prog glist 65 Zcp.en:=satY (fn:=Tryz.f65) (c:=Zcp.code) (An:=Zcp.an) Zcp.envC (by kernel_rfl) (by kernel_rfl)
theorem spec_l1Rd_one_eq (p0r:zt0) (p1list:(List Int)):Zcp ((p0r,p1list)) = bindO (Zap ((p0r.1,p0r.2),(lenL p1list))) (fun (y2:zt16)=>bindO (atL p1list y2.1) (fun (y3:Int)=>(some (y3,(y2.2.1,y2.2.2))))):=by kernel_rfl
abbrev Zbj.ps:List PT:=[.val (.str),.val (.int .i64)]
abbrev Zbj.ros:List (ResultVar × RO):=[(.tmp 4,.val (.str))]
def Zbj.env:Env:={ L:=tlist,G:=glist,C:=[] }
def Zbj.an:Ann:={ lp:=[(2,[0,1,5])],jn:=[(5,[0,1,5]),(7,[5])],sc:=[],kp:=[] }
def Zbj.code:Code:=Tryz.f193.body.getD .skip
def Zbj (x:ByteArray × Int):zt1:=fnR Zbj.env Zbj.an Zbj.code Zbj.ps Zbj.ros x
noncomputable abbrev Zbj.en:Zda:=entry Zbj.ps Zbj.ros Zbj
theorem Zbj.envC:EnvC Tryz.prog Zbj.env:=(.nilG lay_ok Zbh)
theorem Zbj.sat:SatC Tryz.prog glist 193 Zbj.en:=satY (fn:=Tryz.f193) (c:=Zbj.code) (An:=Zbj.an) Zbj.envC (by kernel_rfl) (by kernel_rfl)
noncomputable abbrev Zbj.J:=FJ Zbj.env Zbj.an Zbj.code Zbj.ps Zbj.ros
noncomputable abbrev Zbj.L:=FL Zbj.env Zbj.an Zbj.code Zbj.ps Zbj.ros
def Zbj.l2 (h0:ByteArray) (h1:Int) (h2:ByteArray):zt1:=Zbj.L [1,1,0,0] (St.mk ((0,(vs h0)) :: ((1,(V.val zt9 h1)) :: ((5,(vs h2)) :: []))) [] 0)
def Zbj.j5 (h0:ByteArray) (h1:Int) (h2:ByteArray):zt1:=Zbj.J [1,1,0,0,0,1,0,1] (St.mk ((0,(vs h0)) :: ((1,(V.val zt9 h1)) :: ((5,(vs h2)) :: []))) [] 0)
def Zbj.j7 (h0:ByteArray):zt1:=Zbj.J [1,1,1] (St.mk ((5,(vs h0)) :: []) [] 0)
theorem Zbj.l2_eq (h0:ByteArray) (h1:Int) (h2:ByteArray):Zbj.l2 h0 h1 h2 = iteB (ltI 0 h1) (iteB (eqI 2 0) (none) (iteB (eqI (modI h1 2) 1) (iteB (roomS h2 h0) (Zbj.j5 h0 h1 (catS h2 h0)) (none)) (Zbj.j5 h0 h1 h2))) (Zbj.j7 h2):=(Zcg Zbj.envC.ok.nat _ _ _).trans (by kernel_rfl)
theorem Zbj.j5_eq (h0:ByteArray) (h1:Int) (h2:ByteArray):Zbj.j5 h0 h1 h2 = iteB (roomS h0 h0) (iteB (eqI 2 0) (none) (Zbj.l2 (catS h0 h0) (divI .i64 h1 2) h2)) (none):=Zdn (by kernel_rfl)
theorem Zbj.j7_eq (h0:ByteArray):Zbj.j7 h0 = (some h0):=Zdn (by kernel_rfl)
theorem spec_l1Many_eq (p0s:ByteArray) (p1n:Int):Zbj ((p0s,p1n)) = Zbj.l2 p0s p1n (bs []):=by kernel_rfl
abbrev Zct.ps:List PT:=[.st zt27]
abbrev Zct.ros:List (ResultVar × RO):=[(.tmp 2,.val (.str))]
def Zct.env:Env:={ L:=tlist,G:=glist,C:=[(95,Zap.en),(193,Zbj.en),(192,Zba.en),(46,Zbm.en)] }
def Zct.an:Ann:={ lp:=[],jn:=[],sc:=[],kp:=[0] }
def Zct.code:Code:=Tryz.f140.body.getD .skip
def Zct (x:zt0):zt36:=fnR Zct.env Zct.an Zct.code Zct.ps Zct.ros x
noncomputable abbrev Zct.en:Zda:=entry Zct.ps Zct.ros Zct
theorem Zct.envC:EnvC Tryz.prog Zct.env:=(cns (cns (cns (cns (.nilG lay_ok Zbh) Zbm.sat) Zba.sat) Zbj.sat) Zap.sat)
theorem Zct.sat:SatC Tryz.prog glist 140 Zct.en:=satY (fn:=Tryz.f140) (c:=Zct.code) (An:=Zct.an) Zct.envC (by kernel_rfl) (by kernel_rfl)
theorem spec_l11AnyText_eq (p0r:zt0):Zct (p0r) = bindO (Zap ((p0r.1,p0r.2),14)) (fun (y1:zt16)=>iteB (eqI y1.1 0) (bindO (Zap ((y1.2.1,y1.2.2),2)) (fun (y2:zt16)=>bindO (Zbj ((bs [120]),(addI .i64 60 y2.1))) (fun (y3:ByteArray)=>(some (y3,(y2.2.1,y2.2.2)))))) (iteB (eqI y1.1 1) (bindO (Zba (y1.2.1,y1.2.2)) (fun (y2:zt25)=>bindO (Zbm ((y2.2.1,y2.2.2),((bs [10]) :: ((bs [1]) :: ((bs [127]) :: []))))) (fun (y3:zt25)=>iteB (roomS y2.1 y3.1) ((some ((catS y2.1 y3.1),(y3.2.1,y3.2.2)))) (none)))) (bindO (Zba (y1.2.1,y1.2.2)) (fun (y2:zt25)=>(some (y2.1,(y2.2.1,y2.2.2))))))):=by kernel_rfl
abbrev Zaq.ps:List PT:=[.st zt27,.val zt42]
abbrev Zaq.ros:List (ResultVar × RO):=[(.cell 4 38,.val zt32)]
def Zaq.env:Env:={ L:=tlist,G:=glist,C:=[(136,Zaf.en),(95,Zap.en),(46,Zbm.en),(140,Zct.en)] }
def Zaq.an:Ann:={ lp:=[],jn:=[(10,[4,5])],sc:=[(6,[(0,true),(1,true),(2,true),(5,true),(3,false),(4,false),(6,false),(7,false),(8,false),(9,false),(10,false),(11,false)])],kp:=[0],fk:=[(9,(.one 0 true (.one 1 true (.one 2 true (.one 3 true (.one 4 true (.one 5 true (.one 7 true (.or (.one 6 false (.one 8 false (.one 9 false (.one 10 false (.one 11 false (.one 12 false .done)))))) (.one 8 false (.one 6 false (.one 9 false (.one 10 false (.one 11 false (.one 12 false .done)))))))))))))),[0,4,5],[4,5],[])] }
def Zaq.code:Code:=Tryz.f96.body.getD .skip
def Zaq (x:zt0 × zt24):zt67:=fnR Zaq.env Zaq.an Zaq.code Zaq.ps Zaq.ros x
noncomputable abbrev Zaq.en:Zda:=entry Zaq.ps Zaq.ros Zaq
theorem Zaq.envC:EnvC Tryz.prog Zaq.env:=(cns (cns (cns (cns (.nilG lay_ok Zbh) Zct.sat) Zbm.sat) Zap.sat) Zaf.sat)
theorem Zaq.sat:SatC Tryz.prog glist 96 Zaq.en:=satY (fn:=Tryz.f96) (c:=Zaq.code) (An:=Zaq.an) Zaq.envC (by kernel_rfl) (by kernel_rfl)
noncomputable abbrev Zaq.J:=FJ Zaq.env Zaq.an Zaq.code Zaq.ps Zaq.ros
noncomputable abbrev Zaq.JF:=FF Zaq.env Zaq.an Zaq.code Zaq.ps Zaq.ros
def Zaq.j10 (h0:ByteArray) (h1:zt22) (h2:ByteArray) (h3:(List Int)) (h4:Int):zt67:=Zaq.J [1,1,1] (St.mk ((4,(V.ptr 1 0)) :: ((5,(V.ptr 2 0)) :: [])) ((2,(some (Bx.cs ((vs h0) :: ((V.arr 3) :: []))))) :: ((3,(some (Bx.rows zt6 h1))) :: ((1,(some (Bx.cs ((vs h2) :: (V.nil :: []))))) :: ((0,(some (Bx.cs ((V.val zt21 h3) :: ((V.val zt9 h4) :: []))))) :: [])))) 4)
def Zaq.j100009 (h0:ByteArray) (h1:zt22) (h2:ByteArray) (h3:(List Int)) (h4:Int):zt67:=Zaq.JF [1,1,0,1,0,1,1,1,1,1,0,1,0] (St.mk ((0,(V.ptr 0 0)) :: ((4,(V.ptr 1 0)) :: ((5,(V.ptr 2 0)) :: []))) ((2,(some (Bx.cs ((vs h0) :: ((V.arr 3) :: []))))) :: ((3,(some (Bx.rows zt6 h1))) :: ((1,(some (Bx.cs ((vs h2) :: (V.nil :: []))))) :: ((0,(some (Bx.cs ((V.val zt21 h3) :: ((V.val zt9 h4) :: []))))) :: [])))) 4)
theorem Zaq.j10_eq (h0:ByteArray) (h1:zt22) (h2:ByteArray) (h3:(List Int)) (h4:Int):Zaq.j10 h0 h1 h2 h3 h4 = (some ((h0,h1),(h3,h4))):=Zdn (by kernel_rfl)
theorem Zaq.j100009_eq (h0:ByteArray) (h1:zt22) (h2:ByteArray) (h3:(List Int)) (h4:Int):Zaq.j100009 h0 h1 h2 h3 h4 = bindO (Zap ((h3,h4),(lenL h1))) (fun (y5:zt16)=>bindO (Zbm ((y5.2.1,y5.2.2),((bs [48,49]) :: ((bs []) :: ((bs [120,44]) :: ((bs [45,48]) :: ((bs [114,101,100,44,44,98,108,117,101]) :: ((bs [97,44,98,44,99,44,100,44,101]) :: ((bs [119,111,114,100,115,32,104,101,114,101]) :: []))))))))) (fun (y6:zt25)=>iteB (leI 0 y5.1) (iteB (ltI y5.1 (lenL h1)) (bindO (atL h1 y5.1) (fun (y7:zt10)=>Zaq.j10 h0 (setL h1 y5.1 (y7.1,y6.1)) h2 y6.2.1 y6.2.2)) (none)) (none))):=(Zgy (E:=Zaq.env) (A:=Zaq.an) (c:=(Zis Zaq.code [1,1,0,1,0,1,1,1,1,1,0,1,0])) (s:=(St.mk ((0,(V.ptr 0 0)) :: ((4,(V.ptr 1 0)) :: ((5,(V.ptr 2 0)) :: []))) ((2,(some (Bx.cs ((V.val Ty.str h0) :: ((V.arr 3) :: []))))) :: ((3,(some (Bx.rows zt6 h1))) :: ((1,(some (Bx.cs ((V.val Ty.str h2) :: (V.nil :: []))))) :: ((0,(some (Bx.cs ((V.val zt21 h3) :: ((V.val zt9 h4) :: []))))) :: [])))) 4)) (κ:=(Zgf Zaq.env Zaq.an Zaq.code [1,1,0,1,0,1,1,1,1,1,0,1,0] (retK Zaq.env [.st zt27,.val zt42] [(.cell 4 38,.val zt32)]))) (List.replicate 1 (bindO (Zap ((h3,h4),(lenL h1))) (fun (y5:zt16)=>bindO (Zbm ((y5.2.1,y5.2.2),((bs [48,49]) :: ((bs []) :: ((bs [120,44]) :: ((bs [45,48]) :: ((bs [114,101,100,44,44,98,108,117,101]) :: ((bs [97,44,98,44,99,44,100,44,101]) :: ((bs [119,111,114,100,115,32,104,101,114,101]) :: []))))))))) (fun (y6:zt25)=>iteB (leI 0 y5.1) (iteB (ltI y5.1 (lenL h1)) (bindO (atL h1 y5.1) (fun (y7:zt10)=>(some (St.mk ((4,(V.ptr 1 0)) :: ((5,(V.ptr 2 0)) :: [])) ((2,(some (Bx.cs ((V.val Ty.str h0) :: ((V.arr 3) :: []))))) :: ((3,(some (Bx.rows zt6 (setL h1 y5.1 (y7.1,y6.1))))) :: ((1,(some (Bx.cs ((V.val Ty.str h2) :: (V.nil :: []))))) :: ((0,(some (Bx.cs ((V.val zt21 y6.2.1) :: ((V.val zt9 y6.2.2) :: []))))) :: [])))) 4)))) (none)) (none))))) (by kernel_rfl) (by kernel_rfl)).trans (by kernel_rfl)
theorem spec_l11AnyDoc_eq (p0r:zt0) (p1fields:zt24):Zaq ((p0r,p1fields)) = bindO (Zaf ((p0r.1,p0r.2),p1fields)) (fun (y2:zt60)=>bindO (Zap ((y2.2.1,y2.2.2),14)) (fun (y3:zt16)=>iteB (eqI y3.1 0) (bindO (Zbm ((y3.2.1,y3.2.2),((bs []) :: ((bs [65]) :: ((bs [110,105,110,101,108,101,116,116,101]) :: []))))) (fun (y4:zt25)=>Zaq.j10 y4.1 y2.1.2 (bs []) y4.2.1 y4.2.2)) (iteB (eqI y3.1 1) (bindO (Zbm ((y3.2.1,y3.2.2),((bs [122,122]) :: ((bs [98,111,100,121]) :: ((bs []) :: []))))) (fun (y4:zt25)=>bindO (Zct (y4.2.1,y4.2.2)) (fun (y5:zt25)=>iteB (Zek y2.1.2 ((y4.1,y5.1) :: [])) (Zaq.j10 y2.1.1 (appL y2.1.2 ((y4.1,y5.1) :: [])) (bs []) y5.2.1 y5.2.2) (none)))) (iteB (eqI y3.1 2) (iteB (ltI 0 (lenL y2.1.2)) (Zaq.j100009 y2.1.1 y2.1.2 (bs []) y3.2.1 y3.2.2) (Zaq.j10 y2.1.1 y2.1.2 (bs []) y3.2.1 y3.2.2)) (Zaq.j10 y2.1.1 y2.1.2 (bs []) y3.2.1 y3.2.2))))):=by kernel_rfl
abbrev Zau.ps:List PT:=[.st zt27]
abbrev Zau.ros:List (ResultVar × RO):=[(.tmp 2,.val zt42)]
def Zau.env:Env:={ L:=tlist,G:=glist,C:=[(135,Zco.en),(95,Zap.en),(46,Zbm.en),(65,Zcp.en)] }
def Zau.an:Ann:={ lp:=[],jn:=[(9,[3])],sc:=[],kp:=[0] }
def Zau.code:Code:=Tryz.f97.body.getD .skip
def Zau (x:zt0):zt57:=fnR Zau.env Zau.an Zau.code Zau.ps Zau.ros x
noncomputable abbrev Zau.en:Zda:=entry Zau.ps Zau.ros Zau
theorem Zau.envC:EnvC Tryz.prog Zau.env:=(cns (cns (cns (cns (.nilG lay_ok Zbh) Zcp.sat) Zbm.sat) Zap.sat) Zco.sat)
theorem Zau.sat:SatC Tryz.prog glist 97 Zau.en:=satY (fn:=Tryz.f97) (c:=Zau.code) (An:=Zau.an) Zau.envC (by kernel_rfl) (by kernel_rfl)
noncomputable abbrev Zau.J:=FJ Zau.env Zau.an Zau.code Zau.ps Zau.ros
def Zau.j9 (h0:zt24) (h1:(List Int)) (h2:Int):zt57:=Zau.J [1,1,1] (St.mk ((3,(V.arr 1)) :: []) ((1,(some (Bx.rows zt64 h0))) :: ((0,(some (Bx.cs ((V.val zt21 h1) :: ((V.val zt9 h2) :: []))))) :: [])) 2)
def Zau.j9_1 (h0:(List Int)) (h1:Int):zt57:=Zau.J [1,1,1] (St.mk ((3,V.nil) :: []) ((0,(some (Bx.cs ((V.val zt21 h0) :: ((V.val zt9 h1) :: []))))) :: []) 1)
theorem Zau.j9_eq (h0:zt24) (h1:(List Int)) (h2:Int):Zau.j9 h0 h1 h2 = (some (h0,(h1,h2))):=Zdn (by kernel_rfl)
theorem Zau.j9_1_eq (h0:(List Int)) (h1:Int):Zau.j9_1 h0 h1 = (some ([],(h0,h1))):=Zdn (by kernel_rfl)
theorem spec_l11AnyFields_eq (p0r:zt0):Zau (p0r) = bindO (Zco (p0r.1,p0r.2)) (fun (y1:zt48)=>iteB (Zek [] y1.1) (bindO (Zap ((y1.2.1,y1.2.2),12)) (fun (y2:zt16)=>iteB (eqI y2.1 0) (bindO (Zbm ((y2.2.1,y2.2.2),((bs [116,105,116,108,101]) :: ((bs [122]) :: ((bs []) :: []))))) (fun (y3:zt25)=>bindO (Zap ((y3.2.1,y3.2.2),5)) (fun (y4:zt16)=>bindO (Zap ((y4.2.1,y4.2.2),11)) (fun (y5:zt16)=>iteB (Zek (appL [] y1.1) ((y3.1,(y4.1,y5.1)) :: [])) (Zau.j9 (appL (appL [] y1.1) ((y3.1,(y4.1,y5.1)) :: [])) y5.2.1 y5.2.2) (none))))) (iteB (eqI y2.1 1) (bindO (Zcp ((y2.2.1,y2.2.2),(0 :: (9 :: (10 :: []))))) (fun (y3:zt16)=>iteB (leI 0 0) (iteB (ltI 0 (lenL (appL [] y1.1))) (bindO (atL (appL [] y1.1) 0) (fun (y4:zt12)=>Zau.j9 (setL (appL [] y1.1) 0 (y4.1,(y4.2.1,y3.1))) y3.2.1 y3.2.2)) (none)) (none))) (iteB (eqI y2.1 2) (Zau.j9_1 y2.2.1 y2.2.2) (Zau.j9 (appL [] y1.1) y2.2.1 y2.2.2))))) (none)):=by kernel_rfl
abbrev Za0.ps:List PT:=[.st zt27]
abbrev Za0.ros:List (ResultVar × RO):=[(.cell 2 27,.val zt81)]
def Za0.env:Env:={ L:=tlist,G:=glist,C:=[(94,Zaj.en),(95,Zap.en),(65,Zcp.en),(96,Zaq.en),(97,Zau.en)] }
def Za0.an:Ann:={ lp:=[],jn:=[(12,[2,3])],sc:=[(9,[(0,true),(1,true),(2,true),(3,true),(4,true),(5,false),(6,false),(7,false),(8,false),(9,false),(10,false),(11,false),(12,false)])],kp:=[0] }
def Za0.code:Code:=Tryz.f44.body.getD .skip
def Za0 (x:zt0):zt79:=fnR Za0.env Za0.an Za0.code Za0.ps Za0.ros x
noncomputable abbrev Za0.en:Zda:=entry Za0.ps Za0.ros Za0
theorem Za0.envC:EnvC Tryz.prog Za0.env:=(cns (cns (cns (cns (cns (.nilG lay_ok Zbh) Zau.sat) Zaq.sat) Zcp.sat) Zap.sat) Zaj.sat)
theorem Za0.sat:SatC Tryz.prog glist 44 Za0.en:=satY (fn:=Tryz.f44) (c:=Za0.code) (An:=Za0.an) Za0.envC (by kernel_rfl) (by kernel_rfl)
noncomputable abbrev Za0.J:=FJ Za0.env Za0.an Za0.code Za0.ps Za0.ros
def Za0.j12 (h0:zt24) (h1:zt52) (h2:Int) (h3:zt51) (h4:Int) (h5:(List Int)) (h6:Int):zt79:=Za0.J [1,1,1] (St.mk ((2,(V.ptr 1 0)) :: ((3,(V.ptr 2 0)) :: [])) ((2,(some (Bx.cs ((V.val zt69 h0) :: ((V.arr 3) :: ((V.val zt74 h1) :: ((V.val zt9 h2) :: []))))))) :: ((3,(some (Bx.rows zt68 h3))) :: ((1,(some (Bx.cs (V.nil :: (V.nil :: (V.nil :: ((V.val zt9 h4) :: []))))))) :: ((0,(some (Bx.cs ((V.val zt21 h5) :: ((V.val zt9 h6) :: []))))) :: [])))) 4)
theorem Za0.j12_eq (h0:zt24) (h1:zt52) (h2:Int) (h3:zt51) (h4:Int) (h5:(List Int)) (h6:Int):Za0.j12 h0 h1 h2 h3 h4 h5 h6 = (some ((h0,(h3,(h1,h2))),(h5,h6))):=Zdn (by kernel_rfl)
theorem spec_l11AnyIndex_eq (p0r:zt0):Za0 (p0r) = bindO (Zaj (p0r.1,p0r.2)) (fun (y1:(zt77 × zt0))=>bindO (Zap ((y1.2.1,y1.2.2),16)) (fun (y2:zt16)=>iteB (eqI y2.1 0) (bindO (Zcp ((y2.2.1,y2.2.2),(0 :: ((-1) :: (999999999 :: []))))) (fun (y3:zt16)=>Za0.j12 y1.1.1 y1.1.2.2.1 y3.1 y1.1.2.1 0 y3.2.1 y3.2.2)) (iteB (eqI y2.1 1) (iteB (ltI 0 (lenL y1.1.2.2.1)) (iteB (Zfs 1 (lenL y1.1.2.2.1) (lenL y1.1.2.2.1)) (Za0.j12 y1.1.1 (cutL y1.1.2.2.1 1 (lenL y1.1.2.2.1)) y1.1.2.2.2 y1.1.2.1 0 y2.2.1 y2.2.2) (none)) (Za0.j12 y1.1.1 y1.1.2.2.1 y1.1.2.2.2 y1.1.2.1 0 y2.2.1 y2.2.2)) (iteB (eqI y2.1 2) (bindO (Zaq ((y2.2.1,y2.2.2),y1.1.1)) (fun (y3:zt60)=>iteB (Zek y1.1.2.1 ((y1.1.2.2.2,(y3.1.1,y3.1.2)) :: [])) (Za0.j12 y1.1.1 y1.1.2.2.1 y1.1.2.2.2 (appL y1.1.2.1 ((y1.1.2.2.2,(y3.1.1,y3.1.2)) :: [])) 0 y3.2.1 y3.2.2) (none))) (iteB (eqI y2.1 3) (bindO (Zau (y2.2.1,y2.2.2)) (fun (y3:zt48)=>Za0.j12 y3.1 y1.1.2.2.1 y1.1.2.2.2 y1.1.2.1 0 y3.2.1 y3.2.2)) (Za0.j12 y1.1.1 y1.1.2.2.1 y1.1.2.2.2 y1.1.2.1 0 y2.2.1 y2.2.2)))))):=by kernel_rfl
abbrev Za7.ps:List PT:=[.st zt27,.val zt81]
abbrev Za7.ros:List (ResultVar × RO):=[(.tmp 4,.own (.int .i64))]
def Za7.env:Env:={ L:=tlist,G:=glist,C:=[(95,Zap.en),(65,Zcp.en)] }
def Za7.an:Ann:={ lp:=[(3,[0,3,5,6])],jn:=[(4,[0,3,5,6]),(7,[0,5]),(9,[5])],sc:=[],kp:=[0] }
def Za7.code:Code:=Tryz.f45.body.getD .skip
def Za7 (x:zt0 × zt77):zt38:=fnR Za7.env Za7.an Za7.code Za7.ps Za7.ros x
noncomputable abbrev Za7.en:Zda:=entry Za7.ps Za7.ros Za7
theorem Za7.envC:EnvC Tryz.prog Za7.env:=(cns (cns (.nilG lay_ok Zbh) Zcp.sat) Zap.sat)
theorem Za7.sat:SatC Tryz.prog glist 45 Za7.en:=satY (fn:=Tryz.f45) (c:=Za7.code) (An:=Za7.an) Za7.envC (by kernel_rfl) (by kernel_rfl)
noncomputable abbrev Za7.J:=FJ Za7.env Za7.an Za7.code Za7.ps Za7.ros
noncomputable abbrev Za7.L:=FL Za7.env Za7.an Za7.code Za7.ps Za7.ros
def Za7.l3 (h0:Int) (h1:(List Int)) (h2:zt24) (h3:zt51) (h4:zt52) (h5:Int) (h6:(List Int)) (h7:Int):zt38:=Za7.L [1,1,0,1,0] (St.mk ((0,(V.ptr 0 0)) :: ((3,(V.ptr 1 0)) :: ((5,(V.arr 2)) :: ((6,(V.val zt9 h0)) :: [])))) ((2,(some (Bx.rows zt9 h1))) :: ((1,(some (Bx.cs ((V.val zt69 h2) :: ((V.val zt70 h3) :: ((V.val zt74 h4) :: ((V.val zt9 h5) :: []))))))) :: ((0,(some (Bx.cs ((V.val zt21 h6) :: ((V.val zt9 h7) :: []))))) :: []))) 3)
def Za7.j4 (h0:Int) (h1:(List Int)) (h2:zt24) (h3:zt51) (h4:zt52) (h5:Int) (h6:(List Int)) (h7:Int):zt38:=Za7.J [1,1,0,1,0,0,1,1] (St.mk ((0,(V.ptr 0 0)) :: ((3,(V.ptr 1 0)) :: ((5,(V.arr 2)) :: ((6,(V.val zt9 h0)) :: [])))) ((2,(some (Bx.rows zt9 h1))) :: ((1,(some (Bx.cs ((V.val zt69 h2) :: ((V.val zt70 h3) :: ((V.val zt74 h4) :: ((V.val zt9 h5) :: []))))))) :: ((0,(some (Bx.cs ((V.val zt21 h6) :: ((V.val zt9 h7) :: []))))) :: []))) 3)
def Za7.j7 (h0 h1:(List Int)) (h2:Int):zt38:=Za7.J [1,1,1] (St.mk ((0,(V.ptr 0 0)) :: ((5,(V.arr 1)) :: [])) ((1,(some (Bx.rows zt9 h0))) :: ((0,(some (Bx.cs ((V.val zt21 h1) :: ((V.val zt9 h2) :: []))))) :: [])) 2)
def Za7.j9 (h0 h1:(List Int)) (h2:Int):zt38:=Za7.J [1,1,1,1] (St.mk ((5,(V.arr 1)) :: []) ((1,(some (Bx.rows zt9 h0))) :: ((0,(some (Bx.cs ((V.val zt21 h1) :: ((V.val zt9 h2) :: []))))) :: [])) 2)
theorem Za7.l3_eq (h0:Int) (h1:(List Int)) (h2:zt24) (h3:zt51) (h4:zt52) (h5:Int) (h6:(List Int)) (h7:Int):Za7.l3 h0 h1 h2 h3 h4 h5 h6 h7 = iteB (ltI h0 (lenL h3)) (bindO (Zap ((h6,h7),3)) (fun (y8:zt16)=>iteB (ltI 0 y8.1) (bindO (atL h3 h0) (fun (y9:zt44)=>iteB (Zek h1 (y9.1 :: [])) (Za7.j4 h0 (appL h1 (y9.1 :: [])) h2 h3 h4 h5 y8.2.1 y8.2.2) (none))) (Za7.j4 h0 h1 h2 h3 h4 h5 y8.2.1 y8.2.2))) (Za7.j7 h1 h6 h7):=(Zcg Za7.envC.ok.nat _ _ _).trans (by kernel_rfl)
theorem Za7.j4_eq (h0:Int) (h1:(List Int)) (h2:zt24) (h3:zt51) (h4:zt52) (h5:Int) (h6:(List Int)) (h7:Int):Za7.j4 h0 h1 h2 h3 h4 h5 h6 h7 = Za7.l3 (addI .i64 h0 1) h1 h2 h3 h4 h5 h6 h7:=Zdn (by kernel_rfl)
theorem Za7.j7_eq (h0 h1:(List Int)) (h2:Int):Za7.j7 h0 h1 h2 = bindO (Zap ((h1,h2),5)) (fun (y3:zt16)=>iteB (eqI y3.1 0) (bindO (Zcp ((y3.2.1,y3.2.2),((-1) :: (0 :: (1 :: (99 :: [])))))) (fun (y4:zt16)=>iteB (Zek h0 (y4.1 :: [])) (Za7.j9 (appL h0 (y4.1 :: [])) y4.2.1 y4.2.2) (none))) (Za7.j9 h0 y3.2.1 y3.2.2)):=Zdn (by kernel_rfl)
theorem Za7.j9_eq (h0 h1:(List Int)) (h2:Int):Za7.j9 h0 h1 h2 = (some (h0,(h1,h2))):=Zdn (by kernel_rfl)
theorem spec_l11Ids_eq (p0r:zt0) (p1x:zt77):Za7 ((p0r,p1x)) = Za7.l3 0 [] p1x.1 p1x.2.1 p1x.2.2.1 p1x.2.2.2 p0r.1 p0r.2:=by kernel_rfl
abbrev Zbd.ps:List PT:=[.val (.sl (.int .u8))]
abbrev Zbd.ros:List (ResultVar × RO):=[(.cell 2 27,.val zt81),(.tmp 3,.own (.int .i64)),(.tmp 4,.val (.str))]
def Zbd.env:Env:={ L:=tlist,G:=glist,C:=[(43,Zcs.en),(44,Za0.en),(45,Za7.en),(46,Zbm.en)] }
def Zbd.an:Ann:={ lp:=[],jn:=[],sc:=[],kp:=[],fk:=[(3,(.one 0 true (.one 1 true (.one 2 true (.one 4 true (.or (.one 3 false (.one 5 false (.one 6 false (.one 7 false (.one 8 false (.one 9 false .done)))))) (.one 5 false (.one 3 false (.one 6 false (.one 7 false (.one 8 false (.one 9 false .done))))))))))),[2,5,6],[2,3,4],[])] }
def Zbd.code:Code:=Tryz.f12.body.getD .skip
def Zbd (x:(List Int)):zt80:=fnR Zbd.env Zbd.an Zbd.code Zbd.ps Zbd.ros x
noncomputable abbrev Zbd.en:Zda:=entry Zbd.ps Zbd.ros Zbd
theorem Zbd.envC:EnvC Tryz.prog Zbd.env:=(cns (cns (cns (cns (.nilG lay_ok Zbh) Zbm.sat) Za7.sat) Za0.sat) Zcs.sat)
theorem Zbd.sat:SatC Tryz.prog glist 12 Zbd.en:=satY (fn:=Tryz.f12) (c:=Zbd.code) (An:=Zbd.an) Zbd.envC (by kernel_rfl) (by kernel_rfl)
noncomputable abbrev Zbd.JF:=FF Zbd.env Zbd.an Zbd.code Zbd.ps Zbd.ros
def Zbd.j100003 (h0:zt24) (h1:zt51) (h2:zt52) (h3:Int) (h4:(List Int)) (h5 h6:Int):zt80:=Zbd.JF [1,1,1,0] (St.mk ((2,(V.ptr 0 0)) :: ((5,(V.ptr 1 0)) :: ((6,(V.ptr 2 0)) :: []))) ((2,(some (Bx.cs ((V.val zt69 h0) :: ((V.val zt70 h1) :: ((V.val zt74 h2) :: ((V.val zt9 h3) :: []))))))) :: ((1,(some (Bx.cs ((V.val zt21 h4) :: ((V.val zt9 h5) :: []))))) :: ((0,(some (Bx.cs (V.nil :: (V.nil :: (V.nil :: ((V.val zt9 h6) :: []))))))) :: []))) 3)
theorem Zbd.j100003_eq (h0:zt24) (h1:zt51) (h2:zt52) (h3:Int) (h4:(List Int)) (h5 h6:Int):Zbd.j100003 h0 h1 h2 h3 h4 h5 h6 = bindO (Za7 ((h4,h5),(h0,(h1,(h2,h3))))) (fun (y7:zt26)=>bindO (Zbm ((y7.2.1,y7.2.2),((bs [112,114,105,99,101]) :: ((bs [112,114,105,99,101]) :: ((bs [112,114,105,99,101]) :: ((bs [99,111,108,111,114]) :: [])))))) (fun (y8:zt25)=>(some ((h0,(h1,(h2,h3))),(y7.1,y8.1))))):=(Zgy (E:=Zbd.env) (A:=Zbd.an) (c:=(Zis Zbd.code [1,1,1,0])) (s:=(St.mk ((2,(V.ptr 0 0)) :: ((5,(V.ptr 1 0)) :: ((6,(V.ptr 2 0)) :: []))) ((2,(some (Bx.cs ((V.val zt69 h0) :: ((V.val zt70 h1) :: ((V.val zt74 h2) :: ((V.val zt9 h3) :: []))))))) :: ((1,(some (Bx.cs ((V.val zt21 h4) :: ((V.val zt9 h5) :: []))))) :: ((0,(some (Bx.cs (V.nil :: (V.nil :: (V.nil :: ((V.val zt9 h6) :: []))))))) :: []))) 3)) (κ:=(Zgf Zbd.env Zbd.an Zbd.code [1,1,1,0] (retK Zbd.env [.val (.sl (.int .u8))] [(.cell 2 27,.val zt81),(.tmp 3,.own (.int .i64)),(.tmp 4,.val (.str))]))) (List.replicate 1 (bindO (Za7 ((h4,h5),(h0,(h1,(h2,h3))))) (fun (y7:zt26)=>bindO (Zbm ((y7.2.1,y7.2.2),((bs [112,114,105,99,101]) :: ((bs [112,114,105,99,101]) :: ((bs [112,114,105,99,101]) :: ((bs [99,111,108,111,114]) :: [])))))) (fun (y8:zt25)=>(some (St.mk ((2,(V.ptr 0 0)) :: ((3,(V.arr 1)) :: ((4,(V.val Ty.str y8.1)) :: []))) ((1,(some (Bx.rows zt9 y7.1))) :: ((0,(some (Bx.cs ((V.val zt69 h0) :: ((V.val zt70 h1) :: ((V.val zt74 h2) :: ((V.val zt9 h3) :: []))))))) :: [])) 2)))))) (by kernel_rfl) (by kernel_rfl)).trans (by kernel_rfl)
theorem spec_DrawStatOf_eq (p0code:(List Int)):Zbd (p0code) = bindO (Zcs p0code) (fun (y1:zt0)=>bindO (Za0 (y1.1,y1.2)) (fun (y2:(zt77 × zt0))=>Zbd.j100003 y2.1.1 y2.1.2.1 y2.1.2.2.1 y2.1.2.2.2 y2.2.1 y2.2.2 0)):=by kernel_rfl
abbrev Zcm.ps:List PT:=[.val (.int .i64),.val (.int .i64),.val (.int .i64)]
abbrev Zcm.ros:List (ResultVar × RO):=[(.tmp 6,.val (.bool))]
def Zcm.env:Env:={ L:=tlist,G:=glist,C:=[] }
def Zcm.an:Ann:={ lp:=[],jn:=[],sc:=[],kp:=[] }
def Zcm.code:Code:=Tryz.f59.body.getD .skip
def Zcm (x:Int × Int × Int):(Option Bool):=fnR Zcm.env Zcm.an Zcm.code Zcm.ps Zcm.ros x
noncomputable abbrev Zcm.en:Zda:=entry Zcm.ps Zcm.ros Zcm
theorem Zcm.envC:EnvC Tryz.prog Zcm.env:=(.nilG lay_ok Zbh)
theorem Zcm.sat:SatC Tryz.prog glist 59 Zcm.en:=satY (fn:=Tryz.f59) (c:=Zcm.code) (An:=Zcm.an) Zcm.envC (by kernel_rfl) (by kernel_rfl)
theorem impl_within_eq (p0n p1low p2high:Int):Zcm ((p0n,(p1low,p2high))) = iteB (leI p1low p0n) ((some (leI p0n p2high))) ((some Bool.false)):=by kernel_rfl
abbrev Zdq.ps:List PT:=[.val (.int .u8)]
abbrev Zdq.ros:List (ResultVar × RO):=[(.tmp 2,.val (.bool))]
def Zdq.env:Env:={ L:=tlist,G:=glist,C:=[] }
def Zdq.an:Ann:={ lp:=[],jn:=[],sc:=[],kp:=[] }
def Zdq.code:Code:=Tryz.f202.body.getD .skip
def Zdq (x:Int):(Option Bool):=fnR Zdq.env Zdq.an Zdq.code Zdq.ps Zdq.ros x
noncomputable abbrev Zdq.en:Zda:=entry Zdq.ps Zdq.ros Zdq
theorem Zdq.envC:EnvC Tryz.prog Zdq.env:=(.nilG lay_ok Zbh)
theorem Zdq.sat:SatC Tryz.prog glist 202 Zdq.en:=satY (fn:=Tryz.f202) (c:=Zdq.code) (An:=Zdq.an) Zdq.envC (by kernel_rfl) (by kernel_rfl)
theorem impl_lower_eq (p0b:Int):Zdq (p0b) = iteB (leI 97 p0b) ((some (leI p0b 122))) ((some Bool.false)):=by kernel_rfl
abbrev Zdp.ps:List PT:=[.val (.int .u8)]
abbrev Zdp.ros:List (ResultVar × RO):=[(.tmp 2,.val (.bool))]
def Zdp.env:Env:={ L:=tlist,G:=glist,C:=[] }
def Zdp.an:Ann:={ lp:=[],jn:=[],sc:=[],kp:=[] }
def Zdp.code:Code:=Tryz.f203.body.getD .skip
def Zdp (x:Int):(Option Bool):=fnR Zdp.env Zdp.an Zdp.code Zdp.ps Zdp.ros x
noncomputable abbrev Zdp.en:Zda:=entry Zdp.ps Zdp.ros Zdp
theorem Zdp.envC:EnvC Tryz.prog Zdp.env:=(.nilG lay_ok Zbh)
theorem Zdp.sat:SatC Tryz.prog glist 203 Zdp.en:=satY (fn:=Tryz.f203) (c:=Zdp.code) (An:=Zdp.an) Zdp.envC (by kernel_rfl) (by kernel_rfl)
theorem impl_digit_eq (p0b:Int):Zdp (p0b) = iteB (leI 48 p0b) ((some (leI p0b 57))) ((some Bool.false)):=by kernel_rfl
abbrev Zbk.ps:List PT:=[.val (.str)]
abbrev Zbk.ros:List (ResultVar × RO):=[(.tmp 2,.val (.bool))]
def Zbk.env:Env:={ L:=tlist,G:=glist,C:=[(202,Zdq.en),(203,Zdp.en),(59,Zcm.en)] }
def Zbk.an:Ann:={ lp:=[(2,[0,5,6])],jn:=[(7,[0])],sc:=[],kp:=[] }
def Zbk.code:Code:=Tryz.f155.body.getD .skip
def Zbk (x:ByteArray):(Option Bool):=fnR Zbk.env Zbk.an Zbk.code Zbk.ps Zbk.ros x
noncomputable abbrev Zbk.en:Zda:=entry Zbk.ps Zbk.ros Zbk
theorem Zbk.envC:EnvC Tryz.prog Zbk.env:=(cns (cns (cns (.nilG lay_ok Zbh) Zcm.sat) Zdp.sat) Zdq.sat)
theorem Zbk.sat:SatC Tryz.prog glist 155 Zbk.en:=satY (fn:=Tryz.f155) (c:=Zbk.code) (An:=Zbk.an) Zbk.envC (by kernel_rfl) (by kernel_rfl)
noncomputable abbrev Zbk.J:=FJ Zbk.env Zbk.an Zbk.code Zbk.ps Zbk.ros
noncomputable abbrev Zbk.L:=FL Zbk.env Zbk.an Zbk.code Zbk.ps Zbk.ros
def Zbk.l2 (h0:ByteArray) (h1 h2:Int):(Option Bool):=Zbk.L [1,0,1,0] (St.mk ((0,(vs h0)) :: ((5,(V.val zt9 h1)) :: ((6,(V.val zt9 h2)) :: []))) [] 0)
def Zbk.j7 (h0:ByteArray):(Option Bool):=Zbk.J [1,1] (St.mk ((0,(vs h0)) :: []) [] 0)
theorem Zbk.l2_eq (h0:ByteArray) (h1 h2:Int):Zbk.l2 h0 h1 h2 = iteB (ltI h2 h1) (bindO (atS h0 h2) (fun (y3:Int)=>bindO (Zdq y3) (fun (y4:Bool)=>iteB (notB y4) (iteB (eqI h2 0) ((some Bool.false)) (bindO (atS h0 h2) (fun (y5:Int)=>bindO (Zdp y5) (fun (y6:Bool)=>iteB (notB y6) ((some Bool.false)) (Zbk.l2 h0 h1 (addI .i64 h2 1)))))) (Zbk.l2 h0 h1 (addI .i64 h2 1))))) (Zbk.j7 h0):=(Zcg Zbk.envC.ok.nat _ _ _).trans (by kernel_rfl)
theorem Zbk.j7_eq (h0:ByteArray):Zbk.j7 h0 = bindO (Zcm ((lenS h0),(1,8))) (fun (y1:Bool)=>(some y1)):=Zdn (by kernel_rfl)
theorem impl_NameOk_eq (p0s:ByteArray):Zbk (p0s) = Zbk.l2 p0s (lenS p0s) 0:=by kernel_rfl
abbrev Zae.ps:List PT:=[.val (.sl (.str)),.val (.str)]
abbrev Zae.ros:List (ResultVar × RO):=[(.tmp 4,.val (.int .i64))]
def Zae.env:Env:={ L:=tlist,G:=glist,C:=[] }
def Zae.an:Ann:={ lp:=[(2,[0,1,7,8])],jn:=[(7,[])],sc:=[],kp:=[] }
def Zae.code:Code:=Tryz.f204.body.getD .skip
def Zae (x:(List ByteArray) × ByteArray):(Option Int):=fnR Zae.env Zae.an Zae.code Zae.ps Zae.ros x
noncomputable abbrev Zae.en:Zda:=entry Zae.ps Zae.ros Zae
theorem Zae.envC:EnvC Tryz.prog Zae.env:=(.nilG lay_ok Zbh)
theorem Zae.sat:SatC Tryz.prog glist 204 Zae.en:=satY (fn:=Tryz.f204) (c:=Zae.code) (An:=Zae.an) Zae.envC (by kernel_rfl) (by kernel_rfl)
noncomputable abbrev Zae.J:=FJ Zae.env Zae.an Zae.code Zae.ps Zae.ros
noncomputable abbrev Zae.L:=FL Zae.env Zae.an Zae.code Zae.ps Zae.ros
def Zae.l2 (h0:(List ByteArray)) (h1:ByteArray) (h2 h3:Int):(Option Int):=Zae.L [1,0,1,0] (St.mk ((0,(V.val (Ty.sl Ty.str) h0)) :: ((1,(vs h1)) :: ((7,(V.val zt9 h2)) :: ((8,(V.val zt9 h3)) :: [])))) [] 0)
def Zae.j7:(Option Int):=Zae.J [1,1] (St.mk [] [] 0)
theorem Zae.l2_eq (h0:(List ByteArray)) (h1:ByteArray) (h2 h3:Int):Zae.l2 h0 h1 h2 h3 = iteB (ltI h3 h2) (bindO (atL h0 h3) (fun (y4:ByteArray)=>iteB (eqS h1 y4) ((some h3)) (Zae.l2 h0 h1 h2 (addI .i64 h3 1)))) (Zae.j7):=(Zcg Zae.envC.ok.nat _ _ _).trans (by kernel_rfl)
theorem Zae.j7_eq:Zae.j7  = (some (-1)):=Zdn (by kernel_rfl)
theorem Zg1 (p0s:(List ByteArray)) (p1v:ByteArray):Zae ((p0s,p1v)) = Zae.l2 p0s p1v (lenL p0s) 0:=by kernel_rfl
abbrev Zao.ps:List PT:=[.val (.sl (.str)),.val (.str)]
abbrev Zao.ros:List (ResultVar × RO):=[(.tmp 4,.val (.bool))]
def Zao.env:Env:={ L:=tlist,G:=glist,C:=[(204,Zae.en)] }
def Zao.an:Ann:={ lp:=[],jn:=[],sc:=[],kp:=[] }
def Zao.code:Code:=Tryz.f156.body.getD .skip
def Zao (x:(List ByteArray) × ByteArray):(Option Bool):=fnR Zao.env Zao.an Zao.code Zao.ps Zao.ros x
noncomputable abbrev Zao.en:Zda:=entry Zao.ps Zao.ros Zao
theorem Zao.envC:EnvC Tryz.prog Zao.env:=(cns (.nilG lay_ok Zbh) Zae.sat)
theorem Zao.sat:SatC Tryz.prog glist 156 Zao.en:=satY (fn:=Tryz.f156) (c:=Zao.code) (An:=Zao.an) Zao.envC (by kernel_rfl) (by kernel_rfl)
theorem Zge (p0s:(List ByteArray)) (p1v:ByteArray):Zao ((p0s,p1v)) = bindO (Zae (p0s,p1v)) (fun (y2:Int)=>(some (leI 0 y2))):=by kernel_rfl
abbrev Zav.ps:List PT:=[.val zt42]
abbrev Zav.ros:List (ResultVar × RO):=[(.tmp 2,.val (.bool))]
def Zav.env:Env:={ L:=tlist,G:=glist,C:=[(59,Zcm.en),(155,Zbk.en),(156,Zao.en)] }
def Zav.an:Ann:={ lp:=[(3,[0,3,8,9,10])],jn:=[(8,[0,3,5,6,8,9,10]),(12,[0])],sc:=[],kp:=[] }
def Zav.code:Code:=Tryz.f109.body.getD .skip
def Zav (x:zt24):(Option Bool):=fnR Zav.env Zav.an Zav.code Zav.ps Zav.ros x
noncomputable abbrev Zav.en:Zda:=entry Zav.ps Zav.ros Zav
theorem Zav.envC:EnvC Tryz.prog Zav.env:=(cns (cns (cns (.nilG lay_ok Zbh) Zao.sat) Zbk.sat) Zcm.sat)
theorem Zav.sat:SatC Tryz.prog glist 109 Zav.en:=satY (fn:=Tryz.f109) (c:=Zav.code) (An:=Zav.an) Zav.envC (by kernel_rfl) (by kernel_rfl)
noncomputable abbrev Zav.J:=FJ Zav.env Zav.an Zav.code Zav.ps Zav.ros
noncomputable abbrev Zav.L:=FL Zav.env Zav.an Zav.code Zav.ps Zav.ros
def Zav.l3 (h0 h1:zt24) (h2 h3:Int) (h4:(List ByteArray)):(Option Bool):=Zav.L [1,1,0,1,0] (St.mk ((0,(V.val zt69 h0)) :: ((3,(V.arr 0)) :: ((8,(V.val zt69 h1)) :: ((9,(V.val zt9 h2)) :: ((10,(V.val zt9 h3)) :: []))))) ((0,(some (Bx.rows Ty.str h4))) :: []) 1)
def Zav.j8 (h0:zt24) (h1:Bool) (h2:zt24) (h3 h4:Int) (h5:ByteArray) (h6 h7:Int) (h8:(List ByteArray)):(Option Bool):=Zav.J [1,1,0,1,0,0,1,1,0,0,1,1,1] (St.mk ((0,(V.val zt69 h0)) :: ((3,(V.arr 0)) :: ((5,(V.ptr 1 0)) :: ((6,(V.val Ty.bool h1)) :: ((8,(V.val zt69 h2)) :: ((9,(V.val zt9 h3)) :: ((10,(V.val zt9 h4)) :: []))))))) ((1,(some (Bx.cs ((vs h5) :: ((V.val zt9 h6) :: ((V.val zt9 h7) :: [])))))) :: ((0,(some (Bx.rows Ty.str h8))) :: [])) 2)
def Zav.j12 (h0:zt24):(Option Bool):=Zav.J [1,1,1] (St.mk ((0,(V.val zt69 h0)) :: []) [] 0)
theorem Zav.l3_eq (h0 h1:zt24) (h2 h3:Int) (h4:(List ByteArray)):Zav.l3 h0 h1 h2 h3 h4 = iteB (ltI h3 h2) (bindO (atL h1 h3) (fun (y5:zt12)=>iteB (eqI y5.2.1 1) (bindO (Zcm (y5.2.2,(1,9))) (fun (y6:Bool)=>Zav.j8 h0 y6 h1 h2 h3 y5.1 y5.2.1 y5.2.2 h4)) (Zav.j8 h0 (eqI y5.2.2 0) h1 h2 h3 y5.1 y5.2.1 y5.2.2 h4))) (Zav.j12 h0):=(Zcg Zav.envC.ok.nat _ _ _).trans (by kernel_rfl)
theorem Zav.j8_eq (h0:zt24) (h1:Bool) (h2:zt24) (h3 h4:Int) (h5:ByteArray) (h6 h7:Int) (h8:(List ByteArray)):Zav.j8 h0 h1 h2 h3 h4 h5 h6 h7 h8 = bindO (Zbk h5) (fun (y9:Bool)=>iteB (notB y9) ((some Bool.false)) (bindO (Zao (h8,h5)) (fun (y10:Bool)=>iteB y10 ((some Bool.false)) (bindO (Zcm (h6,(1,3))) (fun (y11:Bool)=>iteB (notB y11) ((some Bool.false)) (iteB (notB h1) ((some Bool.false)) (iteB (Zek h8 (h5 :: [])) (Zav.l3 h0 h2 h3 (addI .i64 h4 1) (appL h8 (h5 :: []))) (none)))))))):=Zdn (by kernel_rfl)
theorem Zav.j12_eq (h0:zt24):Zav.j12 h0 = bindO (Zcm ((lenL h0),(1,4))) (fun (y1:Bool)=>(some y1)):=Zdn (by kernel_rfl)
theorem impl_FieldsOk_eq (p0list:zt24):Zav (p0list) = Zav.l3 p0list p0list (lenL p0list) 0 []:=by kernel_rfl
abbrev Zcd.ps:List PT:=[.val (.str),.val (.int .i64)]
abbrev Zcd.ros:List (ResultVar × RO):=[(.tmp 4,.val (.bool))]
def Zcd.env:Env:={ L:=tlist,G:=glist,C:=[(59,Zcm.en)] }
def Zcd.an:Ann:={ lp:=[(2,[0,1,7,8])],jn:=[(7,[0,1])],sc:=[],kp:=[] }
def Zcd.code:Code:=Tryz.f205.body.getD .skip
def Zcd (x:ByteArray × Int):(Option Bool):=fnR Zcd.env Zcd.an Zcd.code Zcd.ps Zcd.ros x
noncomputable abbrev Zcd.en:Zda:=entry Zcd.ps Zcd.ros Zcd
theorem Zcd.envC:EnvC Tryz.prog Zcd.env:=(cns (.nilG lay_ok Zbh) Zcm.sat)
theorem Zcd.sat:SatC Tryz.prog glist 205 Zcd.en:=satY (fn:=Tryz.f205) (c:=Zcd.code) (An:=Zcd.an) Zcd.envC (by kernel_rfl) (by kernel_rfl)
noncomputable abbrev Zcd.J:=FJ Zcd.env Zcd.an Zcd.code Zcd.ps Zcd.ros
noncomputable abbrev Zcd.L:=FL Zcd.env Zcd.an Zcd.code Zcd.ps Zcd.ros
def Zcd.l2 (h0:ByteArray) (h1 h2 h3:Int):(Option Bool):=Zcd.L [1,0,1,0] (St.mk ((0,(vs h0)) :: ((1,(V.val zt9 h1)) :: ((7,(V.val zt9 h2)) :: ((8,(V.val zt9 h3)) :: [])))) [] 0)
def Zcd.j7 (h0:ByteArray) (h1:Int):(Option Bool):=Zcd.J [1,1] (St.mk ((0,(vs h0)) :: ((1,(V.val zt9 h1)) :: [])) [] 0)
theorem Zcd.l2_eq (h0:ByteArray) (h1 h2 h3:Int):Zcd.l2 h0 h1 h2 h3 = iteB (ltI h3 h2) (bindO (atS h0 h3) (fun (y4:Int)=>bindO (Zcm ((Zhv .i64 y4),(32,126))) (fun (y5:Bool)=>iteB (notB y5) ((some Bool.false)) (Zcd.l2 h0 h1 h2 (addI .i64 h3 1))))) (Zcd.j7 h0 h1):=(Zcg Zcd.envC.ok.nat _ _ _).trans (by kernel_rfl)
theorem Zcd.j7_eq (h0:ByteArray) (h1:Int):Zcd.j7 h0 h1 = (some (leI (lenS h0) h1)):=Zdn (by kernel_rfl)
theorem impl_plain_eq (p0s:ByteArray) (p1most:Int):Zcd ((p0s,p1most)) = Zcd.l2 p0s p1most (lenS p0s) 0:=by kernel_rfl
abbrev Zdl.ps:List PT:=[.val (.str)]
abbrev Zdl.ros:List (ResultVar × RO):=[(.tmp 2,.val (.bool))]
def Zdl.env:Env:={ L:=tlist,G:=glist,C:=[(205,Zcd.en)] }
def Zdl.an:Ann:={ lp:=[],jn:=[],sc:=[],kp:=[] }
def Zdl.code:Code:=Tryz.f157.body.getD .skip
def Zdl (x:ByteArray):(Option Bool):=fnR Zdl.env Zdl.an Zdl.code Zdl.ps Zdl.ros x
noncomputable abbrev Zdl.en:Zda:=entry Zdl.ps Zdl.ros Zdl
theorem Zdl.envC:EnvC Tryz.prog Zdl.env:=(cns (.nilG lay_ok Zbh) Zcd.sat)
theorem Zdl.sat:SatC Tryz.prog glist 157 Zdl.en:=satY (fn:=Tryz.f157) (c:=Zdl.code) (An:=Zdl.an) Zdl.envC (by kernel_rfl) (by kernel_rfl)
theorem impl_textOk_eq (p0s:ByteArray):Zdl (p0s) = bindO (Zcd (p0s,60)) (fun (y1:Bool)=>(some y1)):=by kernel_rfl
abbrev Zat.ps:List PT:=[.val zt32]
abbrev Zat.ros:List (ResultVar × RO):=[(.tmp 2,.val (.bool))]
def Zat.env:Env:={ L:=tlist,G:=glist,C:=[(155,Zbk.en),(157,Zdl.en)] }
def Zat.an:Ann:={ lp:=[(2,[1,6,7,8])],jn:=[(7,[1])],sc:=[(4,[(0,false),(1,false),(2,false),(3,false),(4,false),(5,false),(6,false),(7,false),(8,false),(9,false),(10,false),(11,false),(12,false),(13,false),(14,true),(15,true),(16,true),(17,true),(18,true),(19,true),(20,true),(21,false),(22,false),(23,false),(24,false),(25,false)])],kp:=[] }
def Zat.code:Code:=Tryz.f110.body.getD .skip
def Zat (x:zt39):(Option Bool):=fnR Zat.env Zat.an Zat.code Zat.ps Zat.ros x
noncomputable abbrev Zat.en:Zda:=entry Zat.ps Zat.ros Zat
theorem Zat.envC:EnvC Tryz.prog Zat.env:=(cns (cns (.nilG lay_ok Zbh) Zdl.sat) Zbk.sat)
theorem Zat.sat:SatC Tryz.prog glist 110 Zat.en:=satY (fn:=Tryz.f110) (c:=Zat.code) (An:=Zat.an) Zat.envC (by kernel_rfl) (by kernel_rfl)
noncomputable abbrev Zat.J:=FJ Zat.env Zat.an Zat.code Zat.ps Zat.ros
noncomputable abbrev Zat.L:=FL Zat.env Zat.an Zat.code Zat.ps Zat.ros
def Zat.l2 (h0:zt22) (h1 h2:Int) (h3:ByteArray) (h4:zt22):(Option Bool):=Zat.L [1,0,1,0] (St.mk ((1,(V.ptr 0 0)) :: ((6,(V.val zt20 h0)) :: ((7,(V.val zt9 h1)) :: ((8,(V.val zt9 h2)) :: [])))) ((0,(some (Bx.cs ((vs h3) :: ((V.val zt20 h4) :: []))))) :: []) 1)
def Zat.j7 (h0:ByteArray) (h1:zt22):(Option Bool):=Zat.J [1,1] (St.mk ((1,(V.ptr 0 0)) :: []) ((0,(some (Bx.cs ((vs h0) :: ((V.val zt20 h1) :: []))))) :: []) 1)
theorem Zat.l2_eq (h0:zt22) (h1 h2:Int) (h3:ByteArray) (h4:zt22):Zat.l2 h0 h1 h2 h3 h4 = iteB (ltI h2 h1) (bindO (atL h0 h2) (fun (y5:zt10)=>bindO (Zbk y5.1) (fun (y6:Bool)=>iteB (notB y6) ((some Bool.false)) (bindO (Zdl y5.2) (fun (y7:Bool)=>iteB (notB y7) ((some Bool.false)) (iteB (ltI 0 h2) (bindO (atL h4 (subI .i64 h2 1)) (fun (y8:zt10)=>iteB (notB (ltS y8.1 y5.1)) ((some Bool.false)) (Zat.l2 h0 h1 (addI .i64 h2 1) h3 h4))) (Zat.l2 h0 h1 (addI .i64 h2 1) h3 h4))))))) (Zat.j7 h3 h4):=(Zcg Zat.envC.ok.nat _ _ _).trans (by kernel_rfl)
theorem Zat.j7_eq (h0:ByteArray) (h1:zt22):Zat.j7 h0 h1 = bindO (Zbk h0) (fun (y2:Bool)=>iteB y2 ((some (leI (lenL h1) 4))) ((some Bool.false))):=Zdn (by kernel_rfl)
theorem impl_wellFormed_eq (p0d:zt39):Zat (p0d) = Zat.l2 p0d.2 (lenL p0d.2) 0 p0d.1 p0d.2:=by kernel_rfl
abbrev Za5.ps:List PT:=[.val zt42,.val (.str)]
abbrev Za5.ros:List (ResultVar × RO):=[(.cell 4 95,.val zt37)]
def Za5.env:Env:={ L:=tlist,G:=glist,C:=[] }
def Za5.an:Ann:={ lp:=[(2,[1,4,7,8,9])],jn:=[(7,[4])],sc:=[],kp:=[] }
def Za5.code:Code:=Tryz.f111.body.getD .skip
def Za5 (x:zt24 × ByteArray):zt28:=fnR Za5.env Za5.an Za5.code Za5.ps Za5.ros x
noncomputable abbrev Za5.en:Zda:=entry Za5.ps Za5.ros Za5
theorem Za5.envC:EnvC Tryz.prog Za5.env:=(.nilG lay_ok Zbh)
theorem Za5.sat:SatC Tryz.prog glist 111 Za5.en:=satY (fn:=Tryz.f111) (c:=Za5.code) (An:=Za5.an) Za5.envC (by kernel_rfl) (by kernel_rfl)
noncomputable abbrev Za5.J:=FJ Za5.env Za5.an Za5.code Za5.ps Za5.ros
noncomputable abbrev Za5.L:=FL Za5.env Za5.an Za5.code Za5.ps Za5.ros
def Za5.l2 (h0:ByteArray) (h1:zt24) (h2 h3:Int) (h4:ByteArray) (h5 h6:Int):zt28:=Za5.L [1,0,1,0] (St.mk ((1,(vs h0)) :: ((4,(V.ptr 0 0)) :: ((7,(V.val zt69 h1)) :: ((8,(V.val zt9 h2)) :: ((9,(V.val zt9 h3)) :: []))))) ((0,(some (Bx.cs ((vs h4) :: ((V.val zt9 h5) :: ((V.val zt9 h6) :: [])))))) :: []) 1)
def Za5.j7 (h0:ByteArray) (h1 h2:Int):zt28:=Za5.J [1,1] (St.mk ((4,(V.ptr 0 0)) :: []) ((0,(some (Bx.cs ((vs h0) :: ((V.val zt9 h1) :: ((V.val zt9 h2) :: [])))))) :: []) 1)
theorem Za5.l2_eq (h0:ByteArray) (h1:zt24) (h2 h3:Int) (h4:ByteArray) (h5 h6:Int):Za5.l2 h0 h1 h2 h3 h4 h5 h6 = iteB (ltI h3 h2) (bindO (atL h1 h3) (fun (y7:zt12)=>iteB (eqS y7.1 h0) ((some (y7.1,(y7.2.1,y7.2.2)))) (Za5.l2 h0 h1 h2 (addI .i64 h3 1) h4 h5 h6))) (Za5.j7 h4 h5 h6):=(Zcg Za5.envC.ok.nat _ _ _).trans (by kernel_rfl)
theorem Za5.j7_eq (h0:ByteArray) (h1 h2:Int):Za5.j7 h0 h1 h2 = (some ((bs []),(0,0))):=Zdn (by kernel_rfl)
theorem impl_fieldOf_eq (p0list:zt24) (p1name:ByteArray):Za5 ((p0list,p1name)) = Za5.l2 p1name p0list (lenL p0list) 0 (bs []) 0 0:=by kernel_rfl
end Go.E

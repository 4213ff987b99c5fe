/- A part of the proof: EC. -/
import Derived.Test.YtjpmjigganoioaaGreatDoorEB
import Derived.Maps.Range
import Derived.Carry
set_option linter.unusedVariables false
noncomputable section
namespace Go.E
open Go Go.RowKit
theorem DR.RC_any {F:Nat -> Prop} {w:World} {τ:Ty} {S:Nat -> Prop} {x:D τ} {c:List Value} (hs:τ.hasSl = false) (h:DR w τ S x c):RC F w τ x c :=
 RC_noSl hs (h.toRC (F:=S) (fun _ h=>h))
theorem DR.len {w:World} {τ:Ty} {S:Nat -> Prop} {x:D τ} {c:List Value} (h:DR w τ S x c):c.length = τ.width:=(h.toRC (F:=S) (fun _ h=>h)).len
theorem DR.sub {w:World} {τ:Ty} {S S':Nat -> Prop} {x:D τ} {c:List Value} (h:DR w τ S x c) (hS:∀ k,S k -> S' k):DR w τ S' x c:=h.frame hS (fun _ _=>rfl)
theorem DR_nil {w:World} {e:Ty} {S:Nat -> Prop}:DR w (.sl e) S ([]:List (D e)) [.slice none 0 0] :=
 ⟨none,0,rfl,Nat.le_refl _,fun _=>rfl,fun _ e=>by cases e⟩
theorem DR.punct {w:World} {e:Ty}:∀ {τ:Ty} {S:Nat -> Prop} {x x0:D τ} {c:List Value} {off:Nat} {y:List (D e)},DR w τ S x c -> Zhk τ x off (.sl e) = some y -> Ze0 τ x off (.sl e) ([]:List (D e)) = some x0 ->
  ∃ S0 Sv cv,(∀ k,S0 k -> S k) /\ (∀ k,Sv k -> S k) /\ (∀ k,S0 k -> ¬ Sv k) /\ c[off]? = some cv /\ DR w τ S0 x0 (c.set off (.slice none 0 0)) /\ DR w (.sl e) Sv y [cv]:=by
 intro τ
 induction τ with
 | pr a b iha ihb =>
   intro S x x0 c off y h ha hs
   obtain ⟨S1,S2,c1,c2,rfl,h1,h2,h3,h4,h5⟩:=h
   have hl:=h4.len
   simp only [Zhk] at ha
   simp only [Ze0] at hs
   rw [if_neg (by rintro ⟨_,e⟩; cases e)] at ha hs
   split at ha
   · rename_i hlt
     rw [if_pos hlt] at hs
     rw [Option.map_eq_some_iff] at hs
     obtain ⟨z,hz,rfl⟩:=hs
     obtain ⟨S0,Sv,cv,k1,k2,k3,k4,k5,k6⟩:=iha h4 ha hz
     refine ⟨fun k=>S0 k ∨ S2 k,Sv,cv,fun k hk=>hk.elim (fun h=>h1 k (k1 k h)) (h2 k),fun k hk=>h1 k (k2 k hk),fun k hk hv=>hk.elim (fun h=>k3 k h hv) (fun h=>h3 k (k2 k hv) h),?_,?_,k6⟩
     · rw [List.getElem?_append_left (by omega)]; exact k4
     · rw [List.set_append_left _ _ (by omega)]
       exact ⟨S0,S2,_,c2,rfl,fun k h=>.inl h,fun k h=>.inr h,fun k h h'=>h3 k (k1 k h) h',k5,h5⟩
   · rename_i hlt
     rw [if_neg hlt] at hs
     rw [Option.map_eq_some_iff] at hs
     obtain ⟨z,hz,rfl⟩:=hs
     obtain ⟨S0,Sv,cv,k1,k2,k3,k4,k5,k6⟩:=ihb h5 ha hz
     refine ⟨fun k=>S1 k ∨ S0 k,Sv,cv,fun k hk=>hk.elim (h1 k) (fun h=>h2 k (k1 k h)),fun k hk=>h2 k (k2 k hk),fun k hk hv=>hk.elim (fun h=>h3 k h (k2 k hv)) (fun h=>k3 k h hv),?_,?_,k6⟩
     · rw [List.getElem?_append_right (by omega),hl]; exact k4
     · rw [List.set_append_right _ _ (by omega),hl]
       exact ⟨S1,S0,c1,_,rfl,fun k h=>.inl h,fun k h=>.inr h,fun k h h'=>h3 k h (k1 k h'),h4,k5⟩
 | sl e' _ =>
   intro S x x0 c off y h ha hs
   simp only [Zhk] at ha
   simp only [Ze0] at hs
   split at ha
   · rename_i h0
     rw [if_pos h0] at hs
     obtain ⟨e1,rfl⟩:=Zcb ha
     cases e1
     obtain ⟨e2,rfl⟩:=Zcb hs
     have h':=h
     obtain ⟨a,cap,rfl,_⟩:=h'
     subst h0
     exact ⟨fun _=>False,S,_,fun _ h=>h.elim,fun _ h=>h,fun _ h=>h.elim,rfl,DR_nil,h⟩
   · cases ha
 | q=>intro S x x0 c off y h; exact h.elim
 | int k=>intro S x x0 c off y h ha; simp only [Zhk] at ha; split at ha <;> first | (obtain ⟨e1,_⟩:=Zcb ha; cases e1; done) | cases ha
 | bool=>intro S x x0 c off y h ha; simp only [Zhk] at ha; split at ha <;> first | (obtain ⟨e1,_⟩:=Zcb ha; cases e1; done) | cases ha
 | str=>intro S x x0 c off y h ha; simp only [Zhk] at ha; split at ha <;> first | (obtain ⟨e1,_⟩:=Zcb ha; cases e1; done) | cases ha
 | err=>intro S x x0 c off y h ha; simp only [Zhk] at ha; split at ha <;> first | (obtain ⟨e1,_⟩:=Zcb ha; cases e1; done) | cases ha
 | unit=>intro S x x0 c off y h ha; simp only [Zhk] at ha; split at ha <;> first | (obtain ⟨e1,_⟩:=Zcb ha; cases e1; done) | cases ha
theorem DR.fill {w:World} {e:Ty}:∀ {τ:Ty} {S Sv:Nat -> Prop} {x x1:D τ} {c:List Value} {off:Nat} {y:List (D e)} {cv:Value},DR w τ S x (c.set off (.slice none 0 0)) -> c[off]? = some cv -> Ze0 τ x off (.sl e) y = some x1 ->
  DR w (.sl e) Sv y [cv] -> (∀ k,S k -> ¬ Sv k) -> DR w τ (fun k=>S k ∨ Sv k) x1 c:=by
 intro τ
 induction τ with
 | pr a b iha ihb =>
   intro S Sv x x1 c off y cv h hc hs hv hd
   obtain ⟨S1,S2,c1,c2,he,h1,h2,h3,h4,h5⟩:=h
   have hl:=h4.len
   have hlen:c.length = c1.length + c2.length:=by have:=congrArg List.length he; simpa using this
   simp only [Ze0] at hs
   rw [if_neg (by rintro ⟨_,e⟩; cases e)] at hs
   split at hs
   · rename_i hlt
     rw [Option.map_eq_some_iff] at hs
     obtain ⟨z,hz,rfl⟩:=hs
     have e1:c1 = (c.take a.width).set off (.slice none 0 0):=by
      have:=congrArg (List.take a.width) he
      rw [show List.take a.width (c1 ++ c2) = c1 by rw [← hl,List.take_left]] at this
      rw [← this,List.take_set]
     have e2:c2 = c.drop a.width:=by
      have:=congrArg (List.drop a.width) he
      rw [show List.drop a.width (c1 ++ c2) = c2 by rw [← hl,List.drop_left]] at this
      rw [← this,List.drop_set,if_pos (by omega)]
     rw [e1] at h4
     have:=iha h4 (by rw [List.getElem?_take,if_pos hlt]; exact hc) hz hv (fun k hk=>hd k (h1 k hk))
     refine ⟨fun k=>S1 k ∨ Sv k,S2,c.take a.width,c2,by rw [e2,List.take_append_drop],fun k hk=>hk.elim (fun h=>.inl (h1 k h)) .inr,fun k hk=>.inl (h2 k hk),fun k hk h'=>hk.elim (fun h=>h3 k h h') (fun h=>hd k (h2 k h') h),this,h5⟩
   · rename_i hlt
     rw [Option.map_eq_some_iff] at hs
     obtain ⟨z,hz,rfl⟩:=hs
     have e1:c1 = c.take a.width:=by
      have:=congrArg (List.take a.width) he
      rw [show List.take a.width (c1 ++ c2) = c1 by rw [← hl,List.take_left]] at this
      rw [← this,List.take_set,List.set_eq_of_length_le (by simp; omega)]
     have e2:c2 = (c.drop a.width).set (off - a.width) (.slice none 0 0):=by
      have:=congrArg (List.drop a.width) he
      rw [show List.drop a.width (c1 ++ c2) = c2 by rw [← hl,List.drop_left]] at this
      rw [← this,List.drop_set,if_neg (by omega)]
     rw [e2] at h5
     have:=ihb h5 (by rw [List.getElem?_drop,Nat.add_sub_cancel' (by omega)]; exact hc) hz hv (fun k hk=>hd k (h2 k hk))
     refine ⟨S1,fun k=>S2 k ∨ Sv k,c1,c.drop a.width,by rw [e1,List.take_append_drop],fun k hk=>.inl (h1 k hk),fun k hk=>hk.elim (fun h=>.inl (h2 k h)) .inr,fun k hk h'=>h'.elim (fun h=>h3 k hk h) (fun h=>hd k (h1 k hk) h),h4,this⟩
 | sl e' _ =>
   intro S Sv x x1 c off y cv h hc hs hv hd
   simp only [Ze0] at hs
   split at hs
   · rename_i h0
     subst h0
     obtain ⟨e1,rfl⟩:=Zcb hs
     cases e1
     have hl:=h.len
     rw [List.length_set] at hl
     obtain ⟨d,rfl⟩:=List.length_eq_one_iff.1 hl
     simp at hc; subst hc
     exact hv.sub (fun k hk=>.inr hk)
   · cases hs
 | q=>intro S Sv x x1 c off y cv h; exact h.elim
 | int k=>intro S Sv x x1 c off y cv h hc hs; simp only [Ze0] at hs; split at hs <;> first | (obtain ⟨e1,_⟩:=Zcb hs; cases e1; done) | cases hs
 | bool=>intro S Sv x x1 c off y cv h hc hs; simp only [Ze0] at hs; split at hs <;> first | (obtain ⟨e1,_⟩:=Zcb hs; cases e1; done) | cases hs
 | str=>intro S Sv x x1 c off y cv h hc hs; simp only [Ze0] at hs; split at hs <;> first | (obtain ⟨e1,_⟩:=Zcb hs; cases e1; done) | cases hs
 | err=>intro S Sv x x1 c off y cv h hc hs; simp only [Ze0] at hs; split at hs <;> first | (obtain ⟨e1,_⟩:=Zcb hs; cases e1; done) | cases hs
 | unit=>intro S Sv x x1 c off y cv h hc hs; simp only [Ze0] at hs; split at hs <;> first | (obtain ⟨e1,_⟩:=Zcb hs; cases e1; done) | cases hs
end Go.E
namespace Go.E
open Go Go.RowKit
section
variable {P:Program} {E:Env} {G:List (Nat × List V)} {w0:World} {Ob A B F:Nat -> Prop} {μ:Mu} {m:Hp} {w:World} {base:Nat} {s:St} {a:Act} {v:V} {m':Hp}
theorem ownBx_fz {e:Ty} {y:List (D e)}:(Zif e y).isFz = false:=by unfold Zif; split <;> rfl
theorem own_box {F B:Nat -> Prop} {w:World} {e:Ty} {y:List (D e)} {S:Nat -> Prop} {cv:Value} (h:DR w (.sl e) S y [cv]) :
  ∃ q:MB,cv = .slice q.a q.len q.cap /\ q.len = y.length /\ q.wd = e.width /\ (∀ μ:Mu,Zd2 F B w μ (Zif e y) q) /\ (∀ ad,q.a = some ad -> S ad.block) /\ ∀ S',(∀ k ad,q.a = some ad -> S k -> k ≠ ad.block -> S' k) -> Nest w q S' (Zif e y):=by
 obtain ⟨a,cap,e1,h1,h2,h3⟩:=h
 cases e1
 refine ⟨⟨a,y.length,cap,e.width⟩,rfl,rfl,rfl,fun μ=>?_,fun ad ha=>(h3 ad ha).2.1,fun S' hS=>?_⟩
 · unfold Zif
   split
   · exact ⟨rfl,h1,rfl,h2,fun ad ha=>⟨(h3 ad ha).1,(h3 ad ha).2.2.1⟩⟩
   · rename_i hs
     refine ⟨rfl,h1,rfl,h2,fun ad ha=>?_⟩
     obtain ⟨k1,k2,k3,T,j1,j2,j3⟩:=h3 ad ha
     refine ⟨k1,fun i x hx=>?_,k3⟩
     obtain ⟨c,g1,g2⟩:=j3 i x trivial hx
     exact ⟨c,g1.RC_any (by simpa using hs),g2⟩
 · unfold Zif
   split
   · intro ad ha
     obtain ⟨k1,k2,k3,k4⟩:=h3 ad ha
     exact k4.mono (fun k hk=>hS k ad ha hk.1 hk.2) (fun _ h=>h) (fun _ _ _ _ h=>h) rfl
   · exact Ze4 rfl _ _ _
theorem atL_set {α:Type} {l:List α} {i:Int} {x:α} (h:atL l i = some x):0 <= i /\ i.toNat < l.length /\ l[i.toNat]? = some x:=by
 obtain ⟨h0,h1⟩:=atL_some h
 exact ⟨h0,(List.getElem?_eq_some_iff.1 h1).1,h1⟩
theorem Mem.focus (h:Mem G w0 Ob A B F μ m w) (hbase:μ base = none) {b:Nat} {τ e:Ty} {l:List (D τ)} {i:Int} {x x0:D τ} {off:Nat} {y:List (D e)} (hb:m.at b = some (.dp τ l)) (hi:atL l i = some x)
  (ha:Zhk τ x off (.sl e) = some y) (hs:Ze0 τ x off (.sl e) ([]:List (D e)) = some x0) {q:MB} (hq:μ b = some (some q)) {ad:Addr} (had:q.a = some ad) :
  ∃ (q1:MB) (cv:Value),w.cell? ⟨ad.block,ad.off + i.toNat * τ.width + off,none⟩ = some cv /\ Mem G w0 Ob A B F (upd μ base (some q1)) ((base,some (Zif e y)) :: (b,some (.dpx τ l i x0 off (.arr base))) :: m) w /\
    R F B w (upd μ base (some q1)) (.arr base) cv:=by
 obtain ⟨ν,hd⟩:=h.deep
 have hn:Nest w q (ν b) (.dp τ l):=hd.nest b _ q hb hq
 obtain ⟨T,t1,t2,t3⟩:=hn ad had
 obtain ⟨h0,hlt,hx⟩:=atL_set hi
 obtain ⟨c0,c1,c2⟩:=t3 i.toNat x trivial hx
 obtain ⟨S0,Sv,cv,p1,p2,p3,p4,p5,p6⟩:=c1.punct ha hs
 obtain ⟨q1,o1,o2,o3,o4,o5,o6⟩:=own_box (F:=F) (B:=B) p6
 have hlen:=c1.len
 have hoff:off < τ.width:=by rw [← hlen]; exact (List.getElem?_eq_some_iff.1 p4).1
 have tr:Tr B F F μ (upd μ base (some q1)) w w:=⟨fun _ x=>x,fun _ _ _ _ e=>e,fun _ _ _ _ e=>e,upd_le (.inl hbase)⟩
 have hmb:∀ c y,m.at c = some y -> c ≠ base:=fun c y hy e=>by
  obtain ⟨q',e',_⟩:=h.box c y hy; rw [e,hbase] at e'; cases e'
 have hbb:=hmb b _ hb
 have at3:∀ c z,Hp.at ((base,some (Zif e y)) :: (b,some (.dpx τ l i x0 off (.arr base))) :: m) c = some z -> (c = base /\ z = Zif e y) ∨ (c = b /\ z = .dpx τ l i x0 off (.arr base)) ∨ (c ≠ base /\ c ≠ b /\ m.at c = some z):=fun c z hz=>by
  rw [Hp.at_cons] at hz
  split at hz
  · rename_i e; cases hz; exact .inl ⟨e.symm,rfl⟩
  · rename_i e
    rw [Hp.at_cons] at hz
    split at hz
    · rename_i e2; cases hz; exact .inr (.inl ⟨e2.symm,rfl⟩)
    · rename_i e2; exact .inr (.inr ⟨Ne.symm e,Ne.symm e2,hz⟩)
 have μb:∀ c,c ≠ base -> upd μ base (some q1) c = μ c:=fun c hc=>by simp [upd,hc]
 have μn:upd μ base (some q1) base = some (some q1):=by simp [upd]
 have cellv:w.cell? ⟨ad.block,ad.off + i.toNat * τ.width + off,none⟩ = some cv:=c2 off cv p4
 have hR:R F B w (upd μ base (some q1)) (.arr base) cv:=by
  simp only [R]
  exact ⟨some q1,μn,_,_,_,o1,fun q' e=>by cases e; exact ⟨rfl,rfl,rfl⟩⟩
 have inν:∀ k,Sv k -> ν b k:=fun k hk=>t1 _ k (p2 k hk)
 have cl:∀ c z p ad',m.at c = some z -> z.isFz = false -> μ c = some (some p) -> p.a = some ad' -> ¬ Sv ad'.block:=fun c z p ad' e1 e2 e3 e4 hv=>hd.apart b _ _ c z p ad' hb (inν _ hv) e1 e2 e3 e4 rfl
 refine ⟨q1,cv,cellv,⟨h.ext,fun c z hz=>?_,fun c z p ad' hz hf hp hpa=>?_,fun c c' z z' p p' ad1 ad2 hz hz' hf hf' hp hp' hpa hpa' he=>?_,h.fz,h.bz,⟨fun g cs hg=>tr.R (h.glob.1 g cs hg),h.glob.2⟩,?_⟩,hR⟩
 · rcases at3 c z hz with ⟨rfl,rfl⟩ | ⟨rfl,rfl⟩ | ⟨n1,n2,hz⟩
   · exact ⟨q1,μn,o4 _⟩
   · obtain ⟨q',e1,e2⟩:=h.box c _ hb
     rw [hq] at e1; cases e1
     refine ⟨q,by rw [μb c hbb]; exact hq,e2,h0,hlt,hoff,fun ad' ha'=>?_⟩
     rw [had] at ha'; cases ha'
     exact ⟨cv,hR,cellv⟩
   · obtain ⟨p,e1,e2⟩:=h.box c z hz
     exact ⟨p,by rw [μb c n1]; exact e1,e2.mono tr (fun _ _ _=>rfl)⟩
 · rcases at3 c z hz with ⟨rfl,rfl⟩ | ⟨rfl,rfl⟩ | ⟨n1,n2,hz⟩
   · rw [μn] at hp; cases hp
     exact hd.own b _ _ hb (inν _ (o5 _ hpa))
   · rw [μb c hbb] at hp
     exact h.own c _ p ad' hb rfl hp hpa
   · rw [μb c n1] at hp
     exact h.own c z p ad' hz hf hp hpa
 · have nb:∀ c z p ad',Hp.at ((base,some (Zif e y)) :: (b,some (.dpx τ l i x0 off (.arr base))) :: m) c = some z -> c ≠ base -> z.isFz = false -> upd μ base (some q1) c = some (some p) -> p.a = some ad' -> ∃ z',m.at c = some z' /\ z'.isFz = false /\ μ c = some (some p):=fun c z p ad' hz hne hf hp hpa=>by
     rw [μb c hne] at hp
     rcases at3 c z hz with ⟨rfl,_⟩ | ⟨rfl,rfl⟩ | ⟨n1,n2,hz⟩
     · exact absurd rfl hne
     · exact ⟨_,hb,rfl,hp⟩
     · exact ⟨z,hz,hf,hp⟩
   by_cases hc:c = base <;> by_cases hc':c' = base
   · rw [hc,hc']
   · subst hc
     rw [μn] at hp; cases hp
     obtain ⟨z2,g1,g2,g3⟩:=nb c' z' p' ad2 hz' hc' hf' hp' hpa'
     exact absurd (he ▸ o5 _ hpa) (cl c' z2 p' ad2 g1 g2 g3 hpa')
   · subst hc'
     rw [μn] at hp'; cases hp'
     obtain ⟨z2,g1,g2,g3⟩:=nb c z p ad1 hz hc hf hp hpa
     exact absurd (he ▸ o5 _ hpa') (cl c z2 p ad1 g1 g2 g3 hpa)
   · obtain ⟨z1,g1,g2,g3⟩:=nb c z p ad1 hz hc hf hp hpa
     obtain ⟨z2,k1,k2,k3⟩:=nb c' z' p' ad2 hz' hc' hf' hp' hpa'
     exact h.inj c c' z1 z2 p p' ad1 ad2 g1 k1 g2 k2 g3 k3 hpa hpa' he
 · refine ⟨fun c k=>(c = base /\ Sv k /\ ∀ ad',q1.a = some ad' -> k ≠ ad'.block) ∨ (c = b /\ ν b k /\ ¬ Sv k) ∨ (c ≠ base /\ c ≠ b /\ ν c k),⟨fun c z p hz hp=>?_,fun c z k hz hk=>?_,fun c z k c' z' p ad' hz hk hz' hf hp hpa=>?_,fun c c' z z' k hz hz' hk hk'=>?_⟩⟩
   · rcases at3 c z hz with ⟨rfl,rfl⟩ | ⟨rfl,rfl⟩ | ⟨n1,n2,hz⟩
     · rw [μn] at hp; cases hp
       exact o6 _ (fun k ad' ha' hk hne=>.inl ⟨rfl,hk,fun ad2 ha2=>by rw [ha'] at ha2; cases ha2; exact hne⟩)
     · rw [μb c hbb,hq] at hp; cases hp
       intro ad' ha'
       rw [had] at ha'; cases ha'
       refine ⟨fun j k=>if j = i.toNat then S0 k else T j k,fun j k hk=>.inr (.inl ⟨rfl,?_⟩),fun j1 j2 k hk1 hk2=>?_,fun j z hj hz'=>?_,c0,?_,fun j u hj hu=>?_⟩
       · by_cases hj:j = i.toNat
         · simp only [hj,if_true] at hk
           exact ⟨t1 _ k (p1 k hk),p3 k hk⟩
         · simp only [hj,if_false] at hk
           exact ⟨t1 _ k hk,fun hv=>hj (t2 j i.toNat k hk (p2 k hv))⟩
       · have g:∀ j,(if j = i.toNat then S0 k else T j k) -> T j k:=fun j hk=>by
           by_cases hj:j = i.toNat
           · simp only [hj,if_true] at hk; rw [hj]; exact p1 k hk
           · simpa only [hj,if_false] using hk
         exact t2 j1 j2 k (g j1 hk1) (g j2 hk2)
       · have hj':j ≠ i.toNat:=fun e=>hj (by omega)
         simp only [hj',if_false]
         exact t3 j z trivial hz'
       · simp only [if_true]; exact p5
       · exact c2 j u hu
     · rw [μb c n1] at hp
       have e:(fun k=>(c = base /\ Sv k /\ ∀ ad',q1.a = some ad' -> k ≠ ad'.block) ∨ (c = b /\ ν b k /\ ¬ Sv k) ∨ (c ≠ base /\ c ≠ b /\ ν c k)) = ν c:=by
        funext k; simp [n1,n2]
       rw [e]; exact hd.nest c z p hz hp
   · rcases hk with ⟨rfl,hk,_⟩ | ⟨rfl,hk,_⟩ | ⟨n1,n2,hk⟩
     · exact hd.own b _ k hb (inν k hk)
     · exact hd.own c _ k hb hk
     · rcases at3 c z hz with ⟨rfl,_⟩ | ⟨rfl,_⟩ | ⟨_,_,hz⟩
       · exact absurd rfl n1
       · exact absurd rfl n2
       · exact hd.own c z k hz hk
   · have old:∀ k,ν b k -> c' ≠ base -> ad'.block ≠ k:=fun k hk hne=>by
       rw [μb c' hne] at hp
       rcases at3 c' z' hz' with ⟨rfl,_⟩ | ⟨rfl,rfl⟩ | ⟨_,_,hz'⟩
       · exact absurd rfl hne
       · exact hd.apart c' _ k c' _ p ad' hb hk hb rfl hp hpa
       · exact hd.apart b _ k c' z' p ad' hb hk hz' hf hp hpa
     by_cases hc':c' = base
     · subst hc'
       rw [μn] at hp; cases hp
       rcases hk with ⟨_,_,hk⟩ | ⟨_,hk,hn⟩ | ⟨n1,n2,hk⟩
       · exact fun e=>hk ad' hpa e.symm
       · exact fun e=>hn (e ▸ o5 _ hpa)
       · rcases at3 c z hz with ⟨rfl,_⟩ | ⟨rfl,_⟩ | ⟨_,_,hz⟩
         · exact absurd rfl n1
         · exact absurd rfl n2
         · exact fun e=>n2 (hd.inj c b z _ k hz hb hk (e ▸ inν _ (o5 _ hpa)))
     · rcases hk with ⟨_,hk,_⟩ | ⟨_,hk,_⟩ | ⟨n1,n2,hk⟩
       · exact old k (inν k hk) hc'
       · exact old k hk hc'
       · rw [μb c' hc'] at hp
         have hz0:m.at c = some z:=by
          rcases at3 c z hz with ⟨e1,_⟩ | ⟨e1,_⟩ | ⟨_,_,hz⟩
          · exact absurd e1 n1
          · exact absurd e1 n2
          · exact hz
         rcases at3 c' z' hz' with ⟨e1,_⟩ | ⟨e1,_⟩ | ⟨_,_,hz'⟩
         · exact absurd e1 hc'
         · exact hd.apart c z k b _ p ad' hz0 hk hb rfl (e1 ▸ hp) hpa
         · exact hd.apart c z k c' z' p ad' hz0 hk hz' hf hp hpa
   · have oldz:∀ c z,Hp.at ((base,some (Zif e y)) :: (b,some (.dpx τ l i x0 off (.arr base))) :: m) c = some z -> c ≠ base -> c ≠ b -> m.at c = some z:=fun c z hz n1 n2=>by
       rcases at3 c z hz with ⟨rfl,_⟩ | ⟨rfl,_⟩ | ⟨_,_,hz⟩
       · exact absurd rfl n1
       · exact absurd rfl n2
       · exact hz
     rcases hk with ⟨e1,hk,_⟩ | ⟨e1,hk,hn⟩ | ⟨n1,n2,hk⟩ <;> rcases hk' with ⟨f1,hk',_⟩ | ⟨f1,hk',hn'⟩ | ⟨m1,m2,hk'⟩
     · rw [e1,f1]
     · exact absurd hk hn'
     · exact absurd (hd.inj c' b z' _ k (oldz c' z' hz' m1 m2) hb hk' (inν k hk)) m2
     · exact absurd hk' hn
     · rw [e1,f1]
     · exact absurd (hd.inj c' b z' _ k (oldz c' z' hz' m1 m2) hb hk' hk) m2
     · exact absurd (hd.inj c b z _ k (oldz c z hz n1 n2) hb hk (inν k hk')) n2
     · exact absurd (hd.inj c b z _ k (oldz c z hz n1 n2) hb hk hk') n2
     · exact hd.inj c c' z z' k (oldz c z hz n1 n2) (oldz c' z' hz' m1 m2) hk hk'
theorem Mem.unf (h:Mem G w0 Ob A B F μ m w) {b c:Nat} {τ e:Ty} {l:List (D τ)} {k:Int} {x x1:D τ} {off:Nat} {y:List (D e)} {z:Bx} (hb:m.at b = some (.dpx τ l k x off (.arr c))) (hne:c ≠ b)
  (hc:m.at c = some z) (hz:(z = .rows e y /\ e.hasSl = false) ∨ z = .dp e y) (hs:Ze0 τ x off (.sl e) y = some x1):Mem G w0 Ob A B F μ ((b,some (.dp τ (setL l k x1))) :: (c,none) :: m) w:=by
 obtain ⟨ν,hd⟩:=h.deep
 obtain ⟨q,hq,hbx,k0,klt,koff,hcell⟩:=h.box b _ hb
 have hn:Nest w q (ν b) (.dpx τ l k x off (.arr c)):=hd.nest b _ q hb hq
 obtain ⟨qc,hqc,hcx⟩:=h.box c z hc
 have hzf:z.isFz = false:=by rcases hz with ⟨rfl,_⟩ | rfl <;> rfl
 let Sv:Nat -> Prop:=fun j=>(∃ ad,qc.a = some ad /\ j = ad.block) ∨ ν c j
 have hlen:(setL l k x1).length = l.length:=by unfold setL; simp
 have hrow:∀ cv,R F B w μ (.arr c) cv -> DR w (.sl e) Sv y [cv]:=fun cv hr=>by
  simp only [R] at hr
  obtain ⟨o,e1,a,n,cp,rfl,e2⟩:=hr
  rw [hqc] at e1; cases e1
  obtain ⟨rfl,rfl,rfl⟩:=e2 qc rfl
  have hnz:Nest w qc (ν c) z:=hd.nest c z qc hc hqc
  rcases hz with ⟨rfl,hsl⟩ | rfl
  · obtain ⟨r1,r2,r3,r4,r5⟩:=hcx
    refine ⟨qc.a,qc.cap,by rw [r1],r1 ▸ r2,r4,fun ad ha=>⟨(r5 ad ha).1,.inl ⟨ad,ha,rfl⟩,by rw [← r3]; have:=(r5 ad ha).2.2; rwa [← r3] at this,fun _ _=>False,fun _ _ h=>h.elim,fun _ _ _ h=>h.elim,fun i u _ hu=>?_⟩⟩
    obtain ⟨d,d1,d2⟩:=(r5 ad ha).2.1 i u hu
    exact ⟨d,RC_DR hsl d1,d2⟩
  · obtain ⟨r1,r2,r3,r4,r5⟩:=hcx
    refine ⟨qc.a,qc.cap,by rw [r1],r1 ▸ r2,r4,fun ad ha=>⟨(r5 ad ha).1,.inl ⟨ad,ha,rfl⟩,(r5 ad ha).2,?_⟩⟩
    exact (hnz ad ha).mono (fun j hj=>⟨.inr hj,fun ej=>hd.apart c _ j c _ qc ad hc hj hc hzf hqc ha ej.symm⟩) (fun _ h=>h) (fun _ _ _ _ h=>h) rfl
 have at3:∀ d u,Hp.at ((b,some (.dp τ (setL l k x1))) :: (c,none) :: m) d = some u -> (d = b /\ u = .dp τ (setL l k x1)) ∨ (d ≠ b /\ d ≠ c /\ m.at d = some u):=fun d u hu=>by
  rw [Hp.at_cons] at hu
  split at hu
  · rename_i e; cases hu; exact .inl ⟨e.symm,rfl⟩
  · rename_i e
    rw [Hp.at_cons] at hu
    split at hu
    · cases hu
    · rename_i e2; exact .inr ⟨Ne.symm e,Ne.symm e2,hu⟩
 have old:∀ d u,Hp.at ((b,some (.dp τ (setL l k x1))) :: (c,none) :: m) d = some u -> u.isFz = false -> d ≠ c /\ ∃ u',m.at d = some u' /\ u'.isFz = false:=fun d u hu hf=>by
  rcases at3 d u hu with ⟨rfl,rfl⟩ | ⟨n1,n2,hu⟩
  · exact ⟨fun e=>hne e.symm,_,hb,rfl⟩
  · exact ⟨n2,u,hu,hf⟩
 have svOwn:∀ j,Sv j -> ¬ F j /\ ¬ B j /\ j < w.heap.size /\ (w0.heap.size <= j ∨ Ob j):=fun j hj=>by
  rcases hj with ⟨ad,ha,rfl⟩ | hj
  · exact h.own c z qc ad hc hzf hqc ha
  · exact hd.own c z j hc hj
 have svApart:∀ j d u p ad,Sv j -> d ≠ c -> m.at d = some u -> u.isFz = false -> μ d = some (some p) -> p.a = some ad -> ad.block ≠ j:=fun j d u p ad hj hdc hu hf hp ha=>by
  rcases hj with ⟨ad',ha',rfl⟩ | hj
  · exact fun e=>hdc (h.inj d c u z p qc ad ad' hu hc hf hzf hp hqc ha ha' e)
  · exact hd.apart c z j d u p ad hc hj hu hf hp ha
 have svν:∀ j d u,Sv j -> d ≠ c -> m.at d = some u -> ¬ ν d j:=fun j d u hj hdc hu hv=>by
  rcases hj with ⟨ad',ha',rfl⟩ | hj
  · exact hd.apart d u _ c z qc ad' hu hv hc hzf hqc ha' rfl
  · exact hdc (hd.inj d c u z j hu hc hv hj)
 refine ⟨h.ext,fun d u hu=>?_,fun d u p ad hu hf hp ha=>?_,fun d d' u u' p p' ad ad' hu hu' hf hf' hp hp' ha ha' he=>?_,h.fz,h.bz,h.glob,fun d j=>(d = b /\ (ν b j ∨ Sv j)) ∨ (d ≠ b /\ d ≠ c /\ ν d j),⟨fun d u p hu hp=>?_,fun d u j hu hj=>?_,fun d u j d' u' p ad hu hj hu' hf hp ha=>?_,fun d d' u u' j hu hu' hj hj'=>?_⟩⟩
 · rcases at3 d u hu with ⟨rfl,rfl⟩ | ⟨n1,n2,hu⟩
   · refine ⟨q,hq,?_⟩
     show RowBox w (setL l k x1).length τ.width q
     rw [hlen]; exact hbx
   · exact h.box d u hu
 · obtain ⟨n,u',e1,e2⟩:=old d u hu hf
   exact h.own d u' p ad e1 e2 hp ha
 · obtain ⟨n,u1,e1,e2⟩:=old d u hu hf
   obtain ⟨n',u2,f1,f2⟩:=old d' u' hu' hf'
   exact h.inj d d' u1 u2 p p' ad ad' e1 f1 e2 f2 hp hp' ha ha' he
 · rcases at3 d u hu with ⟨rfl,rfl⟩ | ⟨n1,n2,hu⟩
   · rw [hq] at hp; cases hp
     intro ad ha
     obtain ⟨T,t1,t2,t3,c0,t4,t5⟩:=hn ad ha
     obtain ⟨cv,g1,g2⟩:=hcell ad ha
     have hc0:c0.length = τ.width:=by have:=t4.len; rwa [List.length_set] at this
     have hfill:=DR.fill (c:=c0.set off cv) (cv:=cv) (by rw [List.set_set]; exact t4) (by rw [List.getElem?_set_self (by omega)]) hs (hrow cv g1) (fun j hj hv=>svν j d _ hv (fun e=>hne e.symm) hb (t1 _ j hj))
     refine ⟨fun i j=>if i = k.toNat then T i j ∨ Sv j else T i j,fun i j hj=>.inl ⟨rfl,?_⟩,fun i i' j hj hj'=>?_,fun i u _ hu'=>?_⟩
     · by_cases hi:i = k.toNat
       · simp only [hi,if_true] at hj
         exact hj.imp (t1 _ j) (fun h=>h)
       · simp only [hi,if_false] at hj
         exact .inl (t1 _ j hj)
     · have nt:∀ i,T i j -> ¬ Sv j:=fun i hi hv=>svν j d _ hv (fun e=>hne e.symm) hb (t1 i j hi)
       by_cases hi:i = k.toNat <;> by_cases hi':i' = k.toNat
       · rw [hi,hi']
       · simp only [hi,if_true] at hj
         simp only [hi',if_false] at hj'
         rcases hj with hj | hj
         · rw [hi]; exact t2 _ _ j hj hj'
         · exact absurd hj (nt _ hj')
       · simp only [hi,if_false] at hj
         simp only [hi',if_true] at hj'
         rcases hj' with hj' | hj'
         · rw [hi']; exact t2 _ _ j hj hj'
         · exact absurd hj' (nt _ hj)
       · simp only [hi,if_false] at hj
         simp only [hi',if_false] at hj'
         exact t2 _ _ j hj hj'
     · by_cases hi:i = k.toNat
       · simp only [hi,if_true]
         have hu1:u = x1:=by
          unfold setL at hu'
          rw [hi,List.getElem?_set_self (by omega)] at hu'
          exact (Option.some.inj hu').symm
         subst hu1
         refine ⟨_,hfill,fun j v hj=>?_⟩
         by_cases hjo:j = off
         · subst hjo
           rw [List.getElem?_set_self (by omega)] at hj
           cases hj; exact g2
         · rw [List.getElem?_set_ne (Ne.symm hjo)] at hj
           exact t5 j v hjo hj
       · simp only [hi,if_false]
         unfold setL at hu'
         rw [List.getElem?_set_ne (Ne.symm hi)] at hu'
         exact t3 i u (by omega) hu'
   · have e:(fun j=>(d = b /\ (ν b j ∨ Sv j)) ∨ (d ≠ b /\ d ≠ c /\ ν d j)) = ν d:=by funext j; simp [n1,n2]
     rw [e]; exact hd.nest d u p hu hp
 · rcases hj with ⟨rfl,hj | hj⟩ | ⟨n1,n2,hj⟩
   · exact hd.own d _ j hb hj
   · exact svOwn j hj
   · rcases at3 d u hu with ⟨e1,_⟩ | ⟨_,_,hu⟩
     · exact absurd e1 n1
     · exact hd.own d u j hu hj
 · obtain ⟨nc,u2,f1,f2⟩:=old d' u' hu' hf
   rcases hj with ⟨rfl,hj | hj⟩ | ⟨n1,n2,hj⟩
   · exact hd.apart d _ j d' u2 p ad hb hj f1 f2 hp ha
   · exact svApart j d' u2 p ad hj nc f1 f2 hp ha
   · rcases at3 d u hu with ⟨e1,_⟩ | ⟨_,_,hu⟩
     · exact absurd e1 n1
     · exact hd.apart d u j d' u2 p ad hu hj f1 f2 hp ha
 · have oldn:∀ d u,Hp.at ((b,some (.dp τ (setL l k x1))) :: (c,none) :: m) d = some u -> d ≠ b -> m.at d = some u:=fun d u hu hn=>by
     rcases at3 d u hu with ⟨e1,_⟩ | ⟨_,_,hu⟩
     · exact absurd e1 hn
     · exact hu
   rcases hj with ⟨e1,hj⟩ | ⟨n1,n2,hj⟩ <;> rcases hj' with ⟨f1,hj'⟩ | ⟨m1,m2,hj'⟩
   · rw [e1,f1]
   · rcases hj with hj | hj
     · exact absurd (hd.inj d' b u' _ j (oldn d' u' hu' m1) hb hj' hj) m1
     · exact absurd hj' (svν j d' u' hj m2 (oldn d' u' hu' m1))
   · rcases hj' with hj' | hj'
     · exact absurd (hd.inj d b u _ j (oldn d u hu n1) hb hj hj') n1
     · exact absurd hj (svν j d u hj' n2 (oldn d u hu n1))
   · exact hd.inj d d' u u' j (oldn d u hu n1) (oldn d' u' hu' m1) hj hj'
theorem Mem.unf1 (h:Mem G w0 Ob A B F μ m w) (b:Nat):Mem G w0 Ob A B F μ (unf1 m b) w:=by
 unfold Go.E.unf1
 split
 · rename_i τ l k x off c hb
   split
   · exact h
   · rename_i hne
     split
     · rename_i e y hc
       split
       · exact h
       · rename_i hs
         split
         · rename_i x1 hx1
           exact h.unf hb hne hc (.inl ⟨rfl,by simpa using hs⟩) hx1
         · exact h
     · rename_i e y hc
       split
       · rename_i x1 hx1
         exact h.unf hb hne hc (.inr rfl) hx1
       · exact h
     · exact h
 · exact h
theorem Mem.unfF (l:List Nat):∀ {m:Hp},Mem G w0 Ob A B F μ m w -> Mem G w0 Ob A B F μ (l.foldl Go.E.unf1 m) w:=by
 induction l with
 | nil=>intro m h; exact h
 | cons b l ih=>intro m h; exact ih (h.unf1 b)
theorem Mem.unfAll (h:Mem G w0 Ob A B F μ m w):Mem G w0 Ob A B F μ (unfAll m) w:=by
 unfold Go.E.unfAll
 split
 · exact h.unfF _
 · exact h
theorem Mem.unfV (h:Mem G w0 Ob A B F μ m w) (v:V):Mem G w0 Ob A B F μ (unfV m v) w:=by
 cases v <;> simp only [Go.E.unfV] <;> first | exact h.unf1 _ | exact h
end
end Go.E
namespace Go.E
open Go Go.RowKit
section
variable {P:Program} {E:Env} {G:List (Nat × List V)} {w0:World} {Ob A B F:Nat -> Prop} {μ:Mu} {m:Hp} {w:World} {base:Nat} {s:St} {a:Act} {v:V} {m':Hp} {ν:Nat -> Nat -> Prop}
theorem append_out {L:List (Nat × TL)} {e:Nat} {l:TL} (lay:Lay P L e l) {t u:Nat} (ty:Nat) (ht:P.underlying t = some (.slice e)) (a0:Option Addr) (n cap:Nat) (hn:n <= cap) (ha0:a0 = none -> cap = 0) (olds:List Value) (holds:olds.length = n * l.ty.width)
  (hrow:∀ ad,a0 = some ad -> ad.spot = none /\ Zdz w ad.block ad.off olds /\ Stor w ad.block ad.off (cap * l.ty.width)) {cv:Value} {k:Nat} {news:List Value} (src:Src P l.ty.width u cv k news w) (hroom:n + k <= Zfa) :
  ∃ a' cap' w',(Builtin.append_ #[t,u] ty #[.slice a0 n cap,cv]).run P w = .ok (.slice a' (n + k) cap') w' /\ n + k <= cap' /\ (a' = none -> cap' = 0) /\
    (∀ ad,a' = some ad -> ad.spot = none /\ Zdz w' ad.block ad.off (olds ++ news) /\ Stor w' ad.block ad.off (cap' * l.ty.width)) /\
    ((a' = a0 /\ (w' = w ∨ ∃ ad,a0 = some ad /\ ∃ o,w' = w.setCells ad.block o news)) ∨ ∃ c,a' = some ⟨w.heap.size,0,none⟩ /\ w' = w.drew.alloc (.cells c e)):=by
 obtain ⟨i,i1,i2,i3,z,i4,i5⟩:=lay.size
 have hzs:z.cells.size = l.ty.width:=by
  have:=congrArg List.length i5
  simpa [lay.zlen] using this
 have src':Src P i.size u cv k news w:=by rw [i2]; exact src
 have hnl:=src.newsLen
 by_cases h0:k = 0
 · have hn0:news = []:=List.length_eq_zero_iff.1 (by rw [hnl,h0,Nat.zero_mul])
   subst h0; subst hn0
   have run:=run_append_nothing (P:=P) w t u ty e i ht i1 a0 n cap hn cv src'
   exact ⟨a0,cap,w,run,by omega,ha0,fun ad ha=>by rw [List.append_nil]; exact hrow ad ha,.inl ⟨rfl,.inl rfl⟩⟩
 · by_cases hcap:n + k <= cap
   · cases ha:a0 with
     | none=>have:=ha0 ha; omega
     | some ad =>
       obtain ⟨g1,g2,g3⟩:=hrow ad ha
       obtain ⟨bb,of,sp⟩:=ad
       simp at g1; subst g1
       have hmul:(n + k) * l.ty.width <= cap * l.ty.width:=Nat.mul_le_mul_right _ hcap
       rw [Nat.add_mul] at hmul
       have g3':∀ j,j < news.length -> (w.cell? ⟨bb,of + n * l.ty.width + j,none⟩).isSome = true /\ w.frozen? ⟨bb,of + n * l.ty.width + j,none⟩ = false:=fun j hj=>by
        have:=g3 (n * l.ty.width + j) (by omega)
        simpa only [Nat.add_assoc] using this
       have run:=run_append_room_src (P:=P) w t u ty e i ht i1 bb of n cap cv k news src' hcap (fun j hj=>by rw [i2]; exact (g3' j hj).1) (fun j hj=>by rw [i2]; exact (g3' j hj).2)
       rw [i2] at run
       refine ⟨_,cap,_,run,hcap,(fun e=>by cases e),fun ad had=>?_,.inl ⟨rfl,.inr ⟨_,rfl,_,rfl⟩⟩⟩
       cases had
       refine ⟨rfl,fun j v hj=>?_,g3.set _ _ _⟩
       by_cases hjl:j < olds.length
       · rw [List.getElem?_append_left hjl] at hj
         rw [World.cell?_setCells_out _ _ _ _ _ (fun _ _=>.inl (by simp; omega))]
         exact g2 j v hj
       · rw [List.getElem?_append_right (by omega)] at hj
         have hjr:=(List.getElem?_eq_some_iff.1 hj).1
         have:=World.cell?_setCells_in bb news (of + n * l.ty.width) w (fun j hj=>(g3' j hj).1) (j - olds.length) hjr
         rw [show of + n * l.ty.width + (j - olds.length) = of + j by omega] at this
         rw [this,← hj,List.getElem?_eq_getElem hjr]
   · have hge:=growslice_fits (need:=n + k) (old:=cap) (bytes:=i.bytes) (by omega) (by
       have:(n + k) * i.bytes <= 2 ^ 38 * 512:=Nat.mul_le_mul hroom i3
       omega)
     have hfirst:(Builtin.firstCells i.size n (.slice a0 n cap)).run P w.drew = .ok olds.toArray w.drew:=by
      cases ha:a0 with
      | none =>
        have h1:=ha0 ha
        have:olds = []:=List.length_eq_zero_iff.1 (by rw [holds,show n = 0 by omega,Nat.zero_mul])
        subst this
        exact run_firstCells_none w.drew _ _ _ _
      | some ad =>
        obtain ⟨g1,g2,g3⟩:=hrow ad ha
        refine run_firstCells_some w.drew i.size n ad n cap _ (by rw [i2]; exact holds) (fun j v hj=>?_)
        obtain ⟨bb,of,sp⟩:=ad
        simp at g1; subst g1
        rw [Zd8]; exact g2 j v hj
     have run:=run_append_grow_src (P:=P) w t u ty e i z ht i1 i4 a0 n cap olds hfirst cv k news src' (by omega) (by unfold Zfa at hroom; omega) hge
     have hgc:=grownCap_ge w (n + k) cap e
     refine ⟨_,_,_,run,hgc,(fun e=>by cases e),fun ad had=>?_,.inr ⟨_,rfl,rfl⟩⟩
     cases had
     have hcs:∀ j,(w.drew.alloc (.cells ((olds ++ news).toArray ++ Builtin.zeroCells z.cells (grownCap w (n + k) cap e - (n + k))) e)).cell? ⟨w.heap.size,0 + j,none⟩ = ((olds ++ news).toArray ++ Builtin.zeroCells z.cells (grownCap w (n + k) cap e - (n + k)))[j]?:=fun j=>by
      rw [Nat.zero_add]; exact Zig w.drew _ _ _ j
     refine ⟨rfl,fun j v hj=>?_,fun j hj=>?_⟩
     · rw [hcs]
       have hlt:=(List.getElem?_eq_some_iff.1 hj).1
       rw [Array.getElem?_append_left (by simpa using hlt)]
       simpa using hj
     · rw [hcs]
       refine ⟨?_,by rw [Nat.zero_add]; exact (frozen_new w.drew _ _ _ j).trans (by simp)⟩
       have hsz:((olds ++ news).toArray ++ Builtin.zeroCells z.cells (grownCap w (n + k) cap e - (n + k))).size = grownCap w (n + k) cap e * l.ty.width:=by
        simp only [Array.size_append,List.size_toArray,List.length_append,holds,hnl,Builtin.zeroCells,Array.size_map,Array.size_range,hzs]
        rw [← Nat.add_mul,← Nat.add_mul]
        exact congrArg (· * l.ty.width) (by omega)
       rw [Array.getElem?_eq_getElem (by rw [hsz]; exact hj)]; rfl
structure FreeB (w0:World) (Ob B F:Nat -> Prop) (μ:Mu) (m:Hp) (w:World) (ν:Nat -> Nat -> Prop) (j:Nat):Prop where
 fz:¬ F j
 bz:¬ B j
 lt:j < w.heap.size
 io:w0.heap.size <= j ∨ Ob j
 own:∀ d u p ad,m.at d = some u -> u.isFz = false -> μ d = some (some p) -> p.a = some ad -> ad.block ≠ j
 nest:∀ d u,m.at d = some u -> ¬ ν d j
theorem Zg4 {b c:Nat} {x:Bx} (h:Hp.at ((b,none) :: m) c = some x):c ≠ b /\ m.at c = some x:=by
 rw [Hp.at_cons] at h
 split at h
 · cases h
 · rename_i e; exact ⟨Ne.symm e,h⟩
theorem DeepOk.kill (hd:DeepOk w0 Ob B F μ m w ν) (b:Nat):DeepOk w0 Ob B F μ ((b,none) :: m) w ν :=
 ⟨fun c x q e1=>hd.nest c x q (Zg4 e1).2,fun c x k e1=>hd.own c x k (Zg4 e1).2,fun c x k c' x' q ad e1 e2 e3=>hd.apart c x k c' x' q ad (Zg4 e1).2 e2 (Zg4 e3).2,fun c c' x x' k e1 e2=>hd.inj c c' x x' k (Zg4 e1).2 (Zg4 e2).2⟩
theorem FreeB.kill {j:Nat} (h:FreeB w0 Ob B F μ m w ν j) (b:Nat):FreeB w0 Ob B F μ ((b,none) :: m) w ν j :=
 ⟨h.fz,h.bz,h.lt,h.io,fun d u p ad e1=>h.own d u p ad (Zg4 e1).2,fun d u e1=>h.nest d u (Zg4 e1).2⟩
theorem free_block (h:Mem G w0 Ob A B F μ m w) (hd:DeepOk w0 Ob B F μ m w ν) {b:Nat} {x:Bx} {q:MB} {ad:Addr} (hb:m.at b = some x) (hz:x.isFz = false) (hq:μ b = some (some q)) (ha:q.a = some ad):FreeB w0 Ob B F μ ((b,none) :: m) w ν ad.block:=by
 obtain ⟨k1,k2,k3,k4⟩:=h.own b x q ad hb hz hq ha
 refine ⟨k1,k2,k3,k4,fun d u p ad' e1 e2 e3 e4 e=>?_,fun d u e1 e2=>?_⟩
 · obtain ⟨n,e1⟩:=Zg4 e1
   exact n (h.inj d b u x p q ad' ad e1 hb e2 hz e3 hq e4 ha e)
 · obtain ⟨n,e1⟩:=Zg4 e1
   exact hd.apart d u _ b x q ad e1 e2 hb hz hq ha rfl
theorem free_nest (h:Mem G w0 Ob A B F μ m w) (hd:DeepOk w0 Ob B F μ m w ν) {b:Nat} {x:Bx} {j:Nat} (hb:m.at b = some x) (hj:ν b j):FreeB w0 Ob B F μ ((b,none) :: m) w ν j:=by
 obtain ⟨k1,k2,k3,k4⟩:=hd.own b x j hb hj
 refine ⟨k1,k2,k3,k4,fun d u p ad' e1 e2 e3 e4 e=>?_,fun d u e1 e2=>?_⟩
 · obtain ⟨n,e1⟩:=Zg4 e1
   exact hd.apart b x j d u p ad' hb hj e1 e2 e3 e4 e
 · obtain ⟨n,e1⟩:=Zg4 e1
   exact n (hd.inj d b u x j e1 hb e2 hj)
theorem Mem.addX (h:Mem G w0 Ob A B F μ m w) (hd:DeepOk w0 Ob B F μ m w ν) (hbase:μ base = none) {w':World} (hext:Ext (G = []) Ob w0 w') (hsz:w.heap.size <= w'.heap.size) {W Sx:Nat -> Prop}
  (hsame:∀ c,c < w.heap.size -> ¬ W c -> Same w w' c) (hW:∀ c,W c -> FreeB w0 Ob B F μ m w ν c) {x0:Bx} (hx0:x0.isFz = false) {q1:MB} (hbox:Zd2 F B w' (upd μ base (some q1)) x0 q1)
  (hblk:∀ ad,q1.a = some ad -> FreeB w0 Ob B F μ m w ν ad.block ∨ (w.heap.size <= ad.block /\ ad.block < w'.heap.size)) (hS:∀ j,Sx j -> (FreeB w0 Ob B F μ m w ν j ∨ (w.heap.size <= j /\ j < w'.heap.size)) /\ ∀ ad,q1.a = some ad -> j ≠ ad.block)
  (hnest:Nest w' q1 Sx x0) :
  Mem G w0 Ob A B F (upd μ base (some q1)) ((base,some x0) :: m) w' /\ Tr B F F μ (upd μ base (some q1)) w w':=by
 have keep:∀ c,c < w.heap.size -> ¬ W c -> ∀ off v,w.cell? ⟨c,off,none⟩ = some v -> w'.cell? ⟨c,off,none⟩ = some v:=fun c hc hn off v e=>by rw [(hsame c hc hn).cell off]; exact e
 have tr:Tr B F F μ (upd μ base (some q1)) w w':=⟨fun _ x=>x,fun c off v hc e=>keep c (h.fz c hc).1 (fun hw=>(hW c hw).fz hc) off v e,fun c off v hc e=>keep c (h.block_lt hc) (fun hw=>(hW c hw).bz hc) off v e,upd_le (.inl hbase)⟩
 have hmb:∀ c y,m.at c = some y -> c ≠ base:=fun c y hy e=>by
  obtain ⟨q',e',_⟩:=h.box c y hy; rw [e,hbase] at e'; cases e'
 have μb:∀ c,c ≠ base -> upd μ base (some q1) c = μ c:=fun c hc=>by simp [upd,hc]
 have μn:upd μ base (some q1) base = some (some q1):=by simp [upd]
 have at2:∀ c z,Hp.at ((base,some x0) :: m) c = some z -> (c = base /\ z = x0) ∨ (c ≠ base /\ m.at c = some z):=fun c z hz=>by
  rw [Hp.at_cons] at hz
  split at hz
  · rename_i e; cases hz; exact .inl ⟨e.symm,rfl⟩
  · rename_i e; exact .inr ⟨Ne.symm e,hz⟩
 have sameOwn:∀ c z p ad,m.at c = some z -> z.isFz = false -> μ c = some (some p) -> p.a = some ad -> Same w w' ad.block:=fun c z p ad e1 e2 e3 e4 =>
  hsame _ (h.own c z p ad e1 e2 e3 e4).2.2.1 (fun hw=>(hW _ hw).own c z p ad e1 e2 e3 e4 rfl)
 have newOld:∀ ad c z p ad',q1.a = some ad -> m.at c = some z -> z.isFz = false -> μ c = some (some p) -> p.a = some ad' -> ad'.block ≠ ad.block:=fun ad c z p ad' ha e1 e2 e3 e4 e=>by
  rcases hblk ad ha with hf | ⟨hf,_⟩
  · exact hf.own c z p ad' e1 e2 e3 e4 e
  · have:=(h.own c z p ad' e1 e2 e3 e4).2.2.1; omega
 refine ⟨⟨hext,fun c z hz=>?_,fun c z p ad hz hf hp ha=>?_,fun c c' z z' p p' ad ad' hz hz' hf hf' hp hp' ha ha' he=>?_,fun c hc=>?_,h.bz,⟨fun g cs hg=>tr.R (h.glob.1 g cs hg),h.glob.2⟩,fun c j=>(c = base /\ Sx j) ∨ (c ≠ base /\ ν c j),⟨fun c z p hz hp=>?_,fun c z j hz hj=>?_,fun c z j c' z' p ad hz hj hz' hf hp ha=>?_,fun c c' z z' j hz hz' hj hj'=>?_⟩⟩,tr⟩
 · rcases at2 c z hz with ⟨rfl,rfl⟩ | ⟨n1,hz⟩
   · exact ⟨q1,μn,hbox⟩
   · obtain ⟨p,e1,e2⟩:=h.box c z hz
     exact ⟨p,by rw [μb c n1]; exact e1,e2.mono tr (fun ad hf ha=>sameOwn c z p ad hz hf e1 ha)⟩
 · rcases at2 c z hz with ⟨rfl,rfl⟩ | ⟨n1,hz⟩
   · rw [μn] at hp; cases hp
     rcases hblk ad ha with hf | ⟨k1,k2⟩
     · exact ⟨hf.fz,hf.bz,by have:=hf.lt; omega,hf.io⟩
     · have:=h.ext.size
       exact ⟨fun hF=>by have:=(h.fz _ hF).1; omega,fun hB=>by have:=h.block_lt hB; omega,k2,.inl (by omega)⟩
   · rw [μb c n1] at hp
     obtain ⟨k1,k2,k3,k4⟩:=h.own c z p ad hz hf hp ha
     exact ⟨k1,k2,by omega,k4⟩
 · have e0:=at2 c z hz
   have e0':=at2 c' z' hz'
   rcases e0 with ⟨e1,_⟩ | ⟨n1,hz0⟩ <;> rcases e0' with ⟨f1,_⟩ | ⟨n2,hz0'⟩
   · rw [e1,f1]
   · rw [e1,μn] at hp; cases hp
     rw [μb c' n2] at hp'
     exact absurd he.symm (newOld ad c' z' p' ad' ha hz0' hf' hp' ha')
   · rw [f1,μn] at hp'; cases hp'
     rw [μb c n1] at hp
     exact absurd he (newOld ad' c z p ad ha' hz0 hf hp ha)
   · rw [μb c n1] at hp
     rw [μb c' n2] at hp'
     exact h.inj c c' z z' p p' ad ad' hz0 hz0' hf hf' hp hp' ha ha' he
 · have:=h.fz c hc
   exact ⟨by omega,this.2⟩
 · rcases at2 c z hz with ⟨rfl,rfl⟩ | ⟨n1,hz⟩
   · rw [μn] at hp; cases hp
     have e:(fun j=>(c = c /\ Sx j) ∨ (c ≠ c /\ ν c j)) = Sx:=by funext j; simp
     rw [e]; exact hnest
   · rw [μb c n1] at hp
     have e:(fun j=>(c = base /\ Sx j) ∨ (c ≠ base /\ ν c j)) = ν c:=by funext j; simp [n1]
     rw [e]
     by_cases hzf:z.isFz = true
     · exact Ze4 (by cases z <;> first | rfl | cases hzf) _ _ _
     exact (hd.nest c z p hz hp).frame (fun j hj=>hsame j (hd.own c z j hz hj).2.2.1 (fun hw=>(hW j hw).nest c z hz hj)) (fun ad ha=>sameOwn c z p ad hz (by simpa using hzf) hp ha)
 · rcases hj with ⟨rfl,hj⟩ | ⟨n1,hj⟩
   · rcases (hS j hj).1 with hf | ⟨k1,k2⟩
     · exact ⟨hf.fz,hf.bz,by have:=hf.lt; omega,hf.io⟩
     · have:=h.ext.size
       exact ⟨fun hF=>by have:=(h.fz _ hF).1; omega,fun hB=>by have:=h.block_lt hB; omega,k2,.inl (by omega)⟩
   · rcases at2 c z hz with ⟨e1,_⟩ | ⟨_,hz⟩
     · exact absurd e1 n1
     · obtain ⟨k1,k2,k3,k4⟩:=hd.own c z j hz hj
       exact ⟨k1,k2,by omega,k4⟩
 · rcases at2 c' z' hz' with ⟨rfl,rfl⟩ | ⟨n2,hz'⟩
   · rw [μn] at hp; cases hp
     rcases hj with ⟨_,hj⟩ | ⟨n1,hj⟩
     · exact fun e=>(hS j hj).2 ad ha e.symm
     · rcases at2 c z hz with ⟨e1,_⟩ | ⟨_,hz⟩
       · exact absurd e1 n1
       · rcases hblk ad ha with hf | ⟨k1,_⟩
         · exact fun e=>hf.nest c z hz (e ▸ hj)
         · have:=(hd.own c z j hz hj).2.2.1; omega
   · rw [μb c' n2] at hp
     rcases hj with ⟨_,hj⟩ | ⟨n1,hj⟩
     · rcases (hS j hj).1 with hfr | ⟨k1,_⟩
       · exact hfr.own c' z' p ad hz' hf hp ha
       · have:=(h.own c' z' p ad hz' hf hp ha).2.2.1
         omega
     · rcases at2 c z hz with ⟨e1,_⟩ | ⟨_,hz⟩
       · exact absurd e1 n1
       · exact hd.apart c z j c' z' p ad hz hj hz' hf hp ha
 · have oldz:∀ c z,Hp.at ((base,some x0) :: m) c = some z -> c ≠ base -> m.at c = some z:=fun c z hz n1=>by
     rcases at2 c z hz with ⟨e1,_⟩ | ⟨_,hz⟩
     · exact absurd e1 n1
     · exact hz
   rcases hj with ⟨e1,hj⟩ | ⟨n1,hj⟩ <;> rcases hj' with ⟨f1,hj'⟩ | ⟨n2,hj'⟩
   · rw [e1,f1]
   · rcases (hS j hj).1 with hfr | ⟨k1,_⟩
     · exact absurd hj' (hfr.nest c' z' (oldz c' z' hz' n2))
     · have:=(hd.own c' z' j (oldz c' z' hz' n2) hj').2.2.1; omega
   · rcases (hS j hj').1 with hfr | ⟨k1,_⟩
     · exact absurd hj (hfr.nest c z (oldz c z hz n1))
     · have:=(hd.own c z j (oldz c z hz n1) hj).2.2.1; omega
   · exact hd.inj c c' z z' j (oldz c z hz n1) (oldz c' z' hz' n2) hj hj'
theorem Mem.addD (h:Mem G w0 Ob A B F μ m w) (hd:DeepOk w0 Ob B F μ m w ν) (hbase:μ base = none) {w':World} (hext:Ext (G = []) Ob w0 w') (hsz:w.heap.size <= w'.heap.size) {W Sx:Nat -> Prop}
  (hsame:∀ c,c < w.heap.size -> ¬ W c -> Same w w' c) (hW:∀ c,W c -> FreeB w0 Ob B F μ m w ν c) {τ:Ty} {l:List (D τ)} {q1:MB} (hrow:RowBox w' l.length τ.width q1)
  (hblk:∀ ad,q1.a = some ad -> FreeB w0 Ob B F μ m w ν ad.block ∨ (w.heap.size <= ad.block /\ ad.block < w'.heap.size)) (hS:∀ j,Sx j -> FreeB w0 Ob B F μ m w ν j /\ ∀ ad,q1.a = some ad -> j ≠ ad.block)
  (hel:∀ ad,q1.a = some ad -> Elems w' Sx τ l ad (fun _=>True)) :
  Mem G w0 Ob A B F (upd μ base (some q1)) ((base,some (.dp τ l)) :: m) w' /\ Tr B F F μ (upd μ base (some q1)) w w' :=
 h.addX hd hbase hext hsz hsame hW rfl hrow hblk (fun j hj=>⟨.inl (hS j hj).1,(hS j hj).2⟩) hel
end
end Go.E
namespace Go.E
open Go Go.RowKit
section
variable {P:Program} {E:Env} {G:List (Nat × List V)} {w0:World} {Ob A B F:Nat -> Prop} {μ:Mu} {m:Hp} {w:World} {base:Nat} {s:St} {a:Act} {v:V} {m':Hp} {ν:Nat -> Nat -> Prop}
def Zf2 (w:World) (S:Nat -> Prop) (τ:Ty) (l:List (D τ)) (c:List Value):Prop :=
 ∃ T:Nat -> Nat -> Prop,(∀ i b,T i b -> S b) /\ (∀ i j b,T i b -> T j b -> i = j) /\ ∀ (i:Nat) x,l[i]? = some x -> DR w τ (T i) x ((c.drop (i * τ.width)).take τ.width)
theorem cut_cells {b off wd n i:Nat} {c:List Value} (h:Zdz w b (off + i * wd) c) (hl:c.length = wd) (hi:i < n):((Zfb w b off (n * wd)).drop (i * wd)).take wd = c:=by
 have hmul:i * wd + wd <= n * wd:=by rw [← Nat.succ_mul]; exact Nat.mul_le_mul_right _ hi
 apply List.ext_getElem?
 intro j
 rw [List.getElem?_take]
 split
 · rename_i hj
   rw [List.getElem?_drop,Zix (by omega)]
   have hjc:j < c.length:=by omega
   have:=h j c[j] (List.getElem?_eq_getElem hjc)
   rw [← Nat.add_assoc,this,List.getElem?_eq_getElem hjc]; rfl
 · rename_i hj
   rw [List.getElem?_eq_none (by omega)]
theorem Elems.cells {τ:Ty} {S:Nat -> Prop} {r:List (D τ)} {ad:Addr} (h:Elems w S τ r ad (fun _=>True)):Zf2 w S τ r (Zfb w ad.block ad.off (r.length * τ.width)):=by
 obtain ⟨T,t1,t2,t3⟩:=h
 refine ⟨T,t1,t2,fun i x hx=>?_⟩
 obtain ⟨c,k1,k2⟩:=t3 i x trivial hx
 rw [cut_cells k2 k1.len (List.getElem?_eq_some_iff.1 hx).1]
 exact k1
theorem Zf2.app {τ:Ty} {S1 S2:Nat -> Prop} {l r:List (D τ)} {c d:List Value} (h:Zf2 w S1 τ l c) (hc:c.length = l.length * τ.width) (k:Zf2 w S2 τ r d) (hd:∀ j,S1 j -> ¬ S2 j) :
  Zf2 w (fun j=>S1 j ∨ S2 j) τ (l ++ r) (c ++ d):=by
 obtain ⟨T1,a1,a2,a3⟩:=h
 obtain ⟨T2,b1,b2,b3⟩:=k
 refine ⟨fun i j=>(i < l.length /\ T1 i j) ∨ (l.length <= i /\ T2 (i - l.length) j),fun i j hj=>hj.imp (fun h=>a1 _ j h.2) (fun h=>b1 _ j h.2),fun i i' j hj hj'=>?_,fun i x hi=>?_⟩
 · rcases hj with ⟨e1,hj⟩ | ⟨e1,hj⟩ <;> rcases hj' with ⟨e2,hj'⟩ | ⟨e2,hj'⟩
   · exact a2 _ _ j hj hj'
   · exact absurd (b1 _ j hj') (hd j (a1 _ j hj))
   · exact absurd (b1 _ j hj) (hd j (a1 _ j hj'))
   · have:=b2 _ _ j hj hj'; omega
 · by_cases hil:i < l.length
   · rw [List.getElem?_append_left hil] at hi
     have hmul:i * τ.width + τ.width <= l.length * τ.width:=by rw [← Nat.succ_mul]; exact Nat.mul_le_mul_right _ hil
     rw [List.drop_append_of_le_length (by omega),List.take_append_of_le_length (by simp; omega)]
     exact (a3 i x hi).sub (fun j hj=>.inl ⟨hil,hj⟩)
   · rw [List.getElem?_append_right (by omega)] at hi
     have e:i * τ.width = c.length + (i - l.length) * τ.width:=by rw [hc,← Nat.add_mul]; congr 1; omega
     rw [e,List.drop_append,List.drop_eq_nil_of_le (by omega),List.nil_append,Nat.add_sub_cancel_left]
     exact (b3 _ x hi).sub (fun j hj=>.inr ⟨by omega,hj⟩)
theorem Zf2.at_ {w':World} {τ:Ty} {S:Nat -> Prop} {l:List (D τ)} {c:List Value} {ad:Addr} (h:Zf2 w S τ l c) (hc:Zdz w' ad.block ad.off c) (hs:∀ j,S j -> Same w w' j):Elems w' S τ l ad (fun _=>True):=by
 obtain ⟨T,t1,t2,t3⟩:=h
 exact ⟨T,t1,t2,fun i x _ hx=>⟨_,(t3 i x hx).frame (fun _ h=>h) (fun j hj=>hs j (t1 i j hj)),hc.sub _ _⟩⟩
theorem Zf2.nil {τ:Ty} {S:Nat -> Prop} {c:List Value}:Zf2 w S τ [] c:=⟨fun _ _=>False,fun _ _ h=>h.elim,fun _ _ _ h=>h.elim,fun i x h=>by simp at h⟩
theorem src_deep {u e':Nat} {τ:Ty} (hk:P.underlying u = some (.slice e')) (hw:τ.width ≠ 0) {r:List (D τ)} {S:Nat -> Prop} {ad:Option Addr} {cap:Nat} (h0:ad = none -> r.length = 0)
  (hs:∀ a,ad = some a -> 0 < r.length -> a.spot = none /\ Elems w S τ r a (fun _=>True)) :
  ∃ news,Src P τ.width u (.slice ad r.length cap) r.length news w /\ Zf2 w S τ r news:=by
 by_cases hc0:0 < r.length
 · cases ad with
   | none=>have:=h0 rfl; omega
   | some a =>
     obtain ⟨g1,g3⟩:=hs a rfl hc0
     obtain ⟨k1,k2,k3,k4⟩:=rows_cells (F:=S) (g3.rows (fun _ h=>h)) hw
     refine ⟨_,Src.ofSlice w hk a r.length cap _ k3 (fun j u hj=>?_) k4,g3.cells⟩
     obtain ⟨b,o,sp⟩:=a
     simp at g1; subst g1
     rw [Zd8]; exact k1 j u hj
 · have hr0:r = []:=List.length_eq_zero_iff.1 (by omega)
   subst hr0
   refine ⟨[],?_,.nil⟩
   cases ad with
   | none=>exact Src.ofNil w hk cap
   | some a=>exact Src.ofSlice w hk a 0 cap [] (by simp) (fun j u hj=>by simp at hj) (fun u hu=>by cases hu)
theorem Zgi {c d:Nat} {x' u:Bx} (h:Hp.at ((c,some x') :: m) d = some u):(d = c /\ u = x') ∨ (d ≠ c /\ m.at d = some u):=by
 rw [Hp.at_cons] at h
 split at h
 · rename_i e; cases h; exact .inl ⟨e.symm,rfl⟩
 · rename_i e; exact .inr ⟨Ne.symm e,h⟩
theorem Zfw {c d:Nat} {x x' u:Bx} (hc:m.at c = some x) (hz:x.isFz = false) (h:Hp.at ((c,some x') :: m) d = some u) (hf:u.isFz = false):∃ u',m.at d = some u' /\ u'.isFz = false:=by
 rcases Zgi h with ⟨rfl,rfl⟩ | ⟨_,h⟩
 · exact ⟨x,hc,hz⟩
 · exact ⟨u,h,hf⟩
theorem Mem.swap (h:Mem G w0 Ob A B F μ m w) {c:Nat} {x x':Bx} {q:MB} (hc:m.at c = some x) (hz:x.isFz = false) (hq:μ c = some (some q)) (hb:Zd2 F B w μ x' q)
  (hd:∃ ν,DeepOk w0 Ob B F μ ((c,some x') :: m) w ν):Mem G w0 Ob A B F μ ((c,some x') :: m) w:=by
 refine ⟨h.ext,fun d u hu=>?_,fun d u p ad hu hf hp ha=>?_,fun d d' u u' p p' ad ad' hu hu' hf hf' hp hp' ha ha' he=>?_,h.fz,h.bz,h.glob,hd⟩
 · rcases Zgi hu with ⟨rfl,rfl⟩ | ⟨_,hu⟩
   · exact ⟨q,hq,hb⟩
   · exact h.box d u hu
 · obtain ⟨u',e1,e2⟩:=Zfw hc hz hu hf
   exact h.own d u' p ad e1 e2 hp ha
 · obtain ⟨u1,e1,e2⟩:=Zfw hc hz hu hf
   obtain ⟨u2,e3,e4⟩:=Zfw hc hz hu' hf'
   exact h.inj d d' u1 u2 p p' ad ad' e1 e3 e2 e4 hp hp' ha ha' he
theorem DeepOk.swap (hd:DeepOk w0 Ob B F μ m w ν) {c:Nat} {x x':Bx} {q:MB} (hc:m.at c = some x) (hz:x.isFz = false) (hq:μ c = some (some q)) {S:Nat -> Prop} (hS:∀ j,S j -> ν c j) (hn:Nest w q S x') :
  DeepOk w0 Ob B F μ ((c,some x') :: m) w (fun d j=>(d = c /\ S j) ∨ (d ≠ c /\ ν d j)):=by
 have sub:∀ d u j,Hp.at ((c,some x') :: m) d = some u -> ((d = c /\ S j) ∨ (d ≠ c /\ ν d j)) -> ∃ u',m.at d = some u' /\ ν d j:=fun d u j hu hj=>by
  rcases hj with ⟨rfl,hj⟩ | ⟨n,hj⟩
  · exact ⟨x,hc,hS j hj⟩
  · rcases Zgi hu with ⟨e,_⟩ | ⟨_,hu⟩
    · exact absurd e n
    · exact ⟨u,hu,hj⟩
 refine ⟨fun d u p hu hp=>?_,fun d u j hu hj=>?_,fun d u j d' u' p ad hu hj hu' hf hp ha=>?_,fun d d' u u' j hu hu' hj hj'=>?_⟩
 · rcases Zgi hu with ⟨rfl,rfl⟩ | ⟨n,hu⟩
   · rw [hq] at hp; cases hp
     have e:(fun j=>(d = d /\ S j) ∨ (d ≠ d /\ ν d j)) = S:=by funext j; simp
     rw [e]; exact hn
   · have e:(fun j=>(d = c /\ S j) ∨ (d ≠ c /\ ν d j)) = ν d:=by funext j; simp [n]
     rw [e]; exact hd.nest d u p hu hp
 · obtain ⟨u',e1,e2⟩:=sub d u j hu hj
   exact hd.own d u' j e1 e2
 · obtain ⟨u1,e1,e2⟩:=sub d u j hu hj
   obtain ⟨u2,e3,e4⟩:=Zfw hc hz hu' hf
   exact hd.apart d u1 j d' u2 p ad e1 e2 e3 e4 hp ha
 · obtain ⟨u1,e1,e2⟩:=sub d u j hu hj
   obtain ⟨u2,e3,e4⟩:=sub d' u' j hu' hj'
   exact hd.inj d d' u1 u2 j e1 e3 e2 e4
theorem free_left (hd:DeepOk w0 Ob B F μ m w ν) {c:Nat} {x x':Bx} (hc:m.at c = some x) (hz:x.isFz = false) {S:Nat -> Prop} {j:Nat} (hj:ν c j) (hn:¬ S j) :
  FreeB w0 Ob B F μ ((c,some x') :: m) w (fun d j=>(d = c /\ S j) ∨ (d ≠ c /\ ν d j)) j:=by
 obtain ⟨k1,k2,k3,k4⟩:=hd.own c x j hc hj
 refine ⟨k1,k2,k3,k4,fun d u p ad hu hf hp ha=>?_,fun d u hu hv=>?_⟩
 · obtain ⟨u',e1,e2⟩:=Zfw hc hz hu hf
   exact hd.apart c x j d u' p ad hc hj e1 e2 hp ha
 · rcases hv with ⟨rfl,hv⟩ | ⟨n,hv⟩
   · exact hn hv
   · rcases Zgi hu with ⟨e,_⟩ | ⟨_,hu⟩
     · exact absurd e n
     · exact n (hd.inj d c u x j hu hc hv hj)
structure Taken (P:Program) (G:List (Nat × List V)) (w0:World) (Ob A B F:Nat -> Prop) (μ:Mu) (m2:Hp) (w:World) (τ:Ty) (u:Nat) (cv:Value) (l:List (D τ)) (news:List Value) (ν2:Nat -> Nat -> Prop) (Sx:Nat -> Prop):Prop where
 src:Src P τ.width u cv l.length news w
 mem:Mem G w0 Ob A B F μ m2 w
 deep:DeepOk w0 Ob B F μ m2 w ν2
 free:∀ j,Sx j -> FreeB w0 Ob B F μ m2 w ν2 j
 els:Zf2 w Sx τ l news
theorem cut_taken (h:Mem G w0 Ob A B F μ m w) (hd:DeepOk w0 Ob B F μ m w ν) {c:Nat} {τ:Ty} {r:List (D τ)} {lo hi:Int} {x:Bx} (hc:m.at c = some x) (hz:x.isFz = false) {q:MB} (hq:μ c = some (some q)) (hbx:RowBox w r.length τ.width q)
  (hel:∀ ad,q.a = some ad -> Elems w (ν c) τ r ad (fun i=>lo <= (i:Int))) {cv:Value} (hr:R F B w μ (.cut c lo hi) cv) {u e':Nat} (hu:P.underlying u = some (.slice e')) (hw:τ.width ≠ 0) :
  ∃ news ν2 Sx,Taken P G w0 Ob A B F μ ((c,some (.dpm τ r hi)) :: m) w τ u cv (cutL r lo hi) news ν2 Sx:=by
 simp only [R] at hr
 obtain ⟨o,e1,a,n,cp,rfl,e2⟩:=hr
 rw [hq] at e1; cases e1
 obtain ⟨k1,k2,k3,k4,k5,k6⟩:=e2 q rfl
 obtain ⟨b1,b2,b3,b4,b5⟩:=hbx
 rw [b1] at k3
 have hcl:(cutL r lo hi).length = n:=by
  simp only [cutL,List.length_drop,List.length_take]
  rw [Nat.min_eq_left (by omega)]; omega
 obtain ⟨T,t1,t2,t3⟩:∃ T:Nat -> Nat -> Prop,(∀ i b,T i b -> ν c b) /\ (∀ i j b,T i b -> T j b -> i = j) /\ ∀ ad,q.a = some ad -> ∀ (i:Nat) x,lo <= (i:Int) -> r[i]? = some x -> ∃ c,DR w τ (T i) x c /\ Zdz w ad.block (ad.off + i * τ.width) c:=by
  cases ha:q.a with
  | none=>exact ⟨fun _ _=>False,fun _ _ h=>h.elim,fun _ _ _ h=>h.elim,fun ad e=>by cases e⟩
  | some ad =>
    obtain ⟨T,t1,t2,t3⟩:=hel ad ha
    exact ⟨T,t1,t2,fun ad' e=>by cases e; exact t3⟩
 have hel2:∀ ad,a = some ad -> 0 < (cutL r lo hi).length -> ad.spot = none /\ Elems w (fun j=>∃ i:Nat,lo <= (i:Int) /\ (i:Int) < hi /\ T i j) τ (cutL r lo hi) ad (fun _=>True):=fun ad ha hpos=>by
  obtain ⟨ad0,e3,rfl⟩:=k6 ad ha (by omega)
  refine ⟨rfl,fun i j=>(lo.toNat + i:Int) < hi /\ T (lo.toNat + i) j,fun i j hj=>⟨_,by omega,by omega,hj.2⟩,fun i i' j hj hj'=>by have:=t2 _ _ j hj.2 hj'.2; omega,fun i y _ hy=>?_⟩
  have hy':r[lo.toNat + i]? = some y /\ lo.toNat + i < hi.toNat:=by
   have hy2:((r.take hi.toNat).drop lo.toNat)[i]? = some y:=hy
   rw [List.getElem?_drop,List.getElem?_take] at hy2
   split at hy2
   · exact ⟨hy2,‹_›⟩
   · cases hy2
  obtain ⟨c',g1,g2⟩:=t3 ad0 e3 _ y (by omega) hy'.1
  refine ⟨c',g1.sub (fun j hj=>⟨by omega,hj⟩),?_⟩
  have:ad0.off + lo.toNat * q.wd + i * τ.width = ad0.off + (lo.toNat + i) * τ.width:=by rw [b3,Nat.add_mul]; omega
  simp only [this]; exact g2
 obtain ⟨news,src,els⟩:=src_deep (cap:=cp) hu hw (fun e=>by have:=k5 e; omega) hel2
 rw [hcl] at src
 have hsw:=hd.swap (x':=.dpm τ r hi) hc hz hq (S:=fun j=>∃ i:Nat,hi <= (i:Int) /\ T i j) (fun j ⟨i,_,hj⟩=>t1 i j hj) (fun ad ha=>⟨fun i j=>hi <= (i:Int) /\ T i j,fun i j hj=>⟨i,hj.1,hj.2⟩,fun i i' j hj hj'=>t2 _ _ j hj.2 hj'.2,fun i y hi' hy=>by
  obtain ⟨c',g1,g2⟩:=t3 ad ha i y (by omega) hy
  exact ⟨c',g1.sub (fun j hj=>⟨hi',hj⟩),g2⟩⟩)
 refine ⟨news,_,_,by rw [hcl]; exact src,h.swap hc hz hq ⟨⟨b1,b2,b3,b4,b5⟩,by omega⟩ ⟨_,hsw⟩,hsw,fun j ⟨i,i1,i2,hj⟩=>free_left hd hc hz (t1 i j hj) (fun ⟨i',j1,j2⟩=>by have:=t2 _ _ j hj j2; omega),els⟩
theorem takeD_ok (h:Mem G w0 Ob A B F μ m w) {α:Type} {v:V} {cv:Value} (hr:R F B w μ v cv) {u e':Nat} (hu:P.underlying u = some (.slice e')) {τ:Ty} (hw:τ.width ≠ 0) {K:List (D τ) -> Hp -> Option α} {r:α} (hf:takeD τ v m K = some r) :
  ∃ l m2 news ν2 Sx,K l m2 = some r /\ Taken P G w0 Ob A B F μ m2 w τ u cv l news ν2 Sx:=by
 obtain ⟨ν,hd⟩:=h.deep
 unfold takeD at hf
 split at hf
 · rename_i c
   split at hf
   rotate_left
   · cases hf
   rename_i σ r0 hc
   split at hf
   rotate_left
   · cases hf
   rename_i r1 hr1
   obtain ⟨e,rfl⟩:=Zcb hr1
   cases e
   obtain ⟨q,hq,b1,b2,b3,b4,b5⟩:=h.box c _ hc
   simp only [R] at hr
   obtain ⟨o,e1,a,n,cp,rfl,e2⟩:=hr
   rw [hq] at e1; cases e1
   obtain ⟨rfl,rfl,rfl⟩:=e2 q rfl
   have hn:=hd.nest c _ q hc hq
   obtain ⟨news,src,els⟩:=src_deep (ad:=q.a) (cap:=q.cap) (r:=r0) hu hw (fun e=>by have:=b4 e; omega) (fun ad ha _=>⟨(b5 ad ha).1,hn ad ha⟩)
   exact ⟨_,_,news,ν,ν c,hf,by rw [b1]; exact src,h.kill c,hd.kill c,fun j hj=>free_nest h hd hc hj,els⟩
 · rename_i c lo hi
   split at hf
   · rename_i σ r0 hc
     split at hf
     rotate_left
     · cases hf
     rename_i r1 hr1
     obtain ⟨e,rfl⟩:=Zcb hr1
     cases e
     obtain ⟨hlo,hf⟩:=Zc4 hf
     have hlo:lo = 0:=of_decide_eq_true hlo
     obtain ⟨q,hq,hbx⟩:=h.box c _ hc
     obtain ⟨news,ν2,Sx,ht⟩:=cut_taken h hd hc rfl hq hbx (fun ad ha=>(hd.nest c _ q hc hq ad ha).mono (fun _ h=>h) (fun _ _=>trivial) (fun _ _ _ _ h=>h) rfl) hr hu hw
     exact ⟨_,_,news,ν2,Sx,hf,ht⟩
   · rename_i σ r0 p hc
     split at hf
     rotate_left
     · cases hf
     rename_i r1 hr1
     obtain ⟨e,rfl⟩:=Zcb hr1
     cases e
     obtain ⟨hlo,hf2⟩:=Zc4 hf
     have hlo:lo = p:=of_decide_eq_true hlo
     clear hf
     subst hlo
     obtain ⟨q,hq,hbx,_⟩:=h.box c _ hc
     obtain ⟨news,ν2,Sx,ht⟩:=cut_taken h hd hc rfl hq hbx (hd.nest c _ q hc hq) hr hu hw
     exact ⟨_,_,news,ν2,Sx,hf2,ht⟩
   · cases hf
 · cases hf
theorem append_core (h:Mem G w0 Ob A B F μ m w) (hd:DeepOk w0 Ob B F μ m w ν) (hbase:μ base = none) {L:List (Nat × TL)} {e:Nat} {l:TL} (lay:Lay P L e l) {t u:Nat} (ty:Nat) (ht:P.underlying t = some (.slice e))
  (a0:Option Addr) (cap:Nat) {q r:List (D l.ty)} (hn:q.length <= cap) (ha0:a0 = none -> cap = 0) {olds:List Value} (holds:olds.length = q.length * l.ty.width)
  (hrow:∀ ad,a0 = some ad -> ad.spot = none /\ Zdz w ad.block ad.off olds /\ Stor w ad.block ad.off (cap * l.ty.width)) {cv:Value} {news:List Value} (src:Src P l.ty.width u cv r.length news w) (hroom:q.length + r.length <= Zfa)
  {S1 S2:Nat -> Prop} (h1:Zf2 w S1 l.ty q olds) (h2:Zf2 w S2 l.ty r news) (hdis:∀ j,S1 j -> ¬ S2 j) (hf1:∀ j,S1 j -> FreeB w0 Ob B F μ m w ν j) (hf2:∀ j,S2 j -> FreeB w0 Ob B F μ m w ν j)
  (hfa:∀ ad,a0 = some ad -> FreeB w0 Ob B F μ m w ν ad.block /\ ¬ S1 ad.block /\ ¬ S2 ad.block) :
  ∃ q1 w',(Builtin.append_ #[t,u] ty #[.slice a0 q.length cap,cv]).run P w = .ok (.slice q1.a q1.len q1.cap) w' /\ Mem G w0 Ob A B F (upd μ base (some q1)) ((base,some (.dp l.ty (appL q r))) :: m) w' /\ Tr B F F μ (upd μ base (some q1)) w w':=by
 obtain ⟨a',cap',w',run,k1,k2,k3,k4⟩:=append_out lay ty ht a0 q.length cap hn ha0 olds holds hrow src hroom
 let q1:MB:=⟨a',q.length + r.length,cap',l.ty.width⟩
 have hS:∀ j,S1 j ∨ S2 j -> FreeB w0 Ob B F μ m w ν j:=fun j hj=>hj.elim (hf1 j) (hf2 j)
 have facts:Ext (G = []) Ob w0 w' /\ w.heap.size <= w'.heap.size /\ (∀ c,c < w.heap.size -> ¬ (∃ ad,a0 = some ad /\ c = ad.block) -> Same w w' c) /\
   (∀ ad,a' = some ad -> (FreeB w0 Ob B F μ m w ν ad.block /\ ¬ S1 ad.block /\ ¬ S2 ad.block) ∨ (w.heap.size <= ad.block /\ ad.block < w'.heap.size)) /\ (∀ j,S1 j ∨ S2 j -> Same w w' j):=by
  rcases k4 with ⟨rfl,rfl | ⟨ad,ha,o,rfl⟩⟩ | ⟨c,rfl,rfl⟩
  · exact ⟨h.ext,Nat.le_refl _,fun _ _ _=>rfl,fun ad ha=>.inl (hfa ad ha),fun _ _=>rfl⟩
  · refine ⟨h.ext.setCells (hfa ad ha).1.io o news,by rw [Zee]; omega,fun c hc hne=>Zej w _ _ _ (fun e=>hne ⟨ad,ha,e⟩),fun ad ha=>.inl (hfa ad ha),fun j hj=>Zej w _ _ _ (fun e=>?_)⟩
    subst e
    exact hj.elim (hfa ad ha).2.1 (hfa ad ha).2.2
  · refine ⟨h.ext.drew.alloc _,by simp,fun c hc _=>Zfk w.drew _ hc,fun ad ha=>?_,fun j hj=>Zfk w.drew _ (hS j hj).lt⟩
    cases ha
    exact .inr ⟨Nat.le_refl _,by simp⟩
 obtain ⟨f1,f2,f3,f4,f5⟩:=facts
 obtain ⟨mem,tr⟩:=h.addD hd hbase (W:=fun c=>∃ ad,a0 = some ad /\ c = ad.block) (Sx:=fun j=>S1 j ∨ S2 j) f1 f2 f3 (fun c ⟨ad,ha,e⟩=>e ▸ (hfa ad ha).1) (l:=appL q r) (q1:=q1)
  ⟨by simp [q1,appL],by simpa [q1] using k1,rfl,k2,fun ad ha=>⟨(k3 ad ha).1,(k3 ad ha).2.2⟩⟩
  (fun ad ha=>(f4 ad ha).imp (fun h=>h.1) (fun h=>h))
  (fun j hj=>⟨hS j hj,fun ad ha e=>by
   rcases f4 ad ha with ⟨_,n1,n2⟩ | ⟨n1,_⟩
   · subst e; exact hj.elim n1 n2
   · have:=(hS j hj).lt; omega⟩)
  (fun ad ha=>(h1.app holds h2 hdis).at_ (k3 ad ha).2.1 f5)
 exact ⟨q1,w',run,mem,tr⟩
end
end Go.E
namespace Go.E
open Go Go.RowKit
section
variable {P:Program} {E:Env} {G:List (Nat × List V)} {w0:World} {Ob A B F:Nat -> Prop} {μ:Mu} {m:Hp} {w:World} {base:Nat} {s:St} {a:Act} {v:V} {m':Hp} {ν:Nat -> Nat -> Prop}
theorem good_appendD (h:Pre P E w0 Ob A B F μ s a w) (hb:Zgz μ base) {o:Oper} {c:Call} (ho:o.op = .call c) (hc:c.callee = .builtin .append) {x y:V} (hx:c.args.toList.map (opnd E s) = [x,y]) {t u:Nat} (hts:c.argTypes.toList = [t,u])
  (hnd:∃ τ r m2,m' = (base,some (.dp τ r)) :: m2) (hf:Zea E .append [t,u] [x,y] base s.m (fun v m=>some (v,m)) = some (v,m')):Good P E.G w0 Ob A B F μ base o a w v m':=by
 obtain ⟨p,q,hp,rfl,rfl⟩:=list_two hx
 simp only [Zea] at hf
 obtain ⟨lt,e,l,hlt,hkt,hle,hf⟩:=Zg0 hf
 obtain ⟨lu,eu,leu,hlu,hku,_,hf⟩:=Zg0 hf
 have ht:=(h.env.lay _ lt hlt).kind
 rw [hkt] at ht
 replace ht:=ht.1
 have hu:=(h.env.lay _ lu hlu).kind
 rw [hku] at hu
 replace hu:=hu.1
 have lay:=h.env.lay e l hle
 have hp0:=h.ev p
 have hq0:=h.ev q
 split at hf
 ·
  obtain ⟨τ0,r0,m0,rfl⟩:=hnd
  split at hf
  · have:=(Zbp (Zc4 hf).2).2
    simp at this
  · split at hf
    · split at hf
      · have:=(Zbp (Zc4 hf).2).2
        simp at this
      · cases hf
    · cases hf
  · cases hf
 unfold Zih at hf
 split at hf
 rotate_left
 · cases hf
 have hm:=(h.mem.unfV (opnd E s p)).unfV (opnd E s q)
 obtain ⟨r,m2,news,ν2,Sx,hf,tk⟩:=takeD_ok (P:=P) hm hq0 hu lay.pos hf
 split at hf
 · rename_i e1
   obtain ⟨hroom,hf⟩:=Zc4 hf
   obtain ⟨rfl,rfl⟩:=Zbp hf
   have hroom:r.length <= Zfa:=by have:=of_decide_eq_true hroom; simpa using this
   rw [e1] at hp0; simp only [R] at hp0
   obtain ⟨q1,w',run,mem,tr⟩:=append_core tk.mem tk.deep hb.at0 lay o.type ht none 0 (q:=[]) (r:=r) (Nat.le_refl _) (fun _=>rfl) (olds:=[]) (by simp) (fun ad e=>by cases e) tk.src (by simpa using hroom) (S1:=fun _=>False) .nil tk.els (fun _ h=>h.elim) (fun _ h=>h.elim) tk.free (fun ad e=>by cases e)
   refine Good.value (Zgl ho hc hts hp (by rw [hp0]; exact run)) ⟨mem,tr,Zg2 μ base _⟩ ?_
   simp only [R]
   exact ⟨some q1,by simp [upd],_,_,_,rfl,fun q hq=>by cases hq; exact ⟨rfl,rfl,rfl⟩⟩
 · rename_i b e1
   split at hf
   rotate_left
   · cases hf
   rename_i σ q0 hbb
   split at hf
   rotate_left
   · cases hf
   rename_i q' hq'
   obtain ⟨eσ,rfl⟩:=Zcb hq'
   cases eσ
   obtain ⟨hroom,hf⟩:=Zc4 hf
   obtain ⟨rfl,rfl⟩:=Zbp hf
   have hroom:q0.length + r.length <= Zfa:=of_decide_eq_true hroom
   rw [e1] at hp0; simp only [R] at hp0
   obtain ⟨ob,e2,p1,p2,p3,e3,e4⟩:=hp0
   obtain ⟨qb,e5,b1,b2,b3,b4,b5⟩:=tk.mem.box b _ hbb
   rw [e2] at e5; cases e5
   obtain ⟨rfl,rfl,rfl⟩:=e4 qb rfl
   have hn:=tk.deep.nest b _ qb hbb e2
   obtain ⟨olds,ho1,ho2,ho3⟩:∃ olds:List Value,olds.length = q0.length * l.ty.width /\ (∀ ad,qb.a = some ad -> Zdz w ad.block ad.off olds) /\ Zf2 w (ν2 b) l.ty q0 olds:=by
    cases ha:qb.a with
    | none =>
      have h1:=b4 ha
      have:q0 = []:=List.length_eq_zero_iff.1 (by omega)
      subst this
      exact ⟨[],by simp,(fun ad e=>by cases e),.nil⟩
    | some ad =>
      have he:=hn ad ha
      obtain ⟨j1,j2,j3,j4⟩:=rows_cells (F:=ν2 b) (he.rows (fun _ h=>h)) lay.pos
      exact ⟨_,j3,(fun ad' e=>by cases e; exact j1),he.cells⟩
   obtain ⟨q1,w',run,mem,tr⟩:=append_core (tk.mem.kill b) (tk.deep.kill b) hb.at0 lay o.type ht qb.a qb.cap (q:=q0) (r:=r) (by omega) b4 ho1 (fun ad ha=>⟨(b5 ad ha).1,ho2 ad ha,(b5 ad ha).2⟩) tk.src hroom ho3 tk.els
    (fun j hj hs=>(tk.free j hs).nest b _ hbb hj) (fun j hj=>free_nest tk.mem tk.deep hbb hj) (fun j hj=>(tk.free j hj).kill b)
    (fun ad ha=>⟨free_block tk.mem tk.deep hbb rfl e2 ha,fun hj=>tk.deep.apart b _ _ b _ qb ad hbb hj hbb rfl e2 ha rfl,fun hj=>(tk.free _ hj).own b _ qb ad hbb rfl e2 ha rfl⟩)
   refine Good.value (Zgl ho hc hts hp (by rw [e3,b1]; exact run)) ⟨mem,tr,Zg2 μ base _⟩ ?_
   simp only [R]
   exact ⟨some q1,by simp [upd],_,_,_,rfl,fun q hq=>by cases hq; exact ⟨rfl,rfl,rfl⟩⟩
 · cases hf
theorem scal_sl {τ:Ty} (h:τ.scal = true):τ.hasSl = false /\ τ.agg = false:=by cases τ <;> first | exact ⟨rfl,rfl⟩ | cases h
theorem good_loadD (h:Pre P E w0 Ob A B F μ s a w) (hb0:Zgz μ base) {o:Oper} {t:Nat} {x:Operand} (ho:o.op = .load t x) (hd:DeepEp s (opnd E s x)) (hf:opF E o.op base s = some (v,m')):Good P E.G w0 Ob A B F μ base o a w v m':=by
 rw [ho] at hf; simp only [opF,opK] at hf
 obtain ⟨l,hl0,hf⟩:=Zdy hf
 have hl:=h.env.lay t l hl0
 have hx:=h.ev x
 have exec:∀ {p:Addr} {cv:Value},a.eval x = .pointer (some p) -> (loadVar t p).run P w = .ok cv w -> (execOp a.eval o).run P w = .ok (.value cv) w:=by
  intro p cv e1 e2
  unfold execOp; rw [ho]; simp [e1,Instr.loadAt,Instr.sureAddr,e2]
 obtain ⟨b,i,off,he,hd⟩:=hd
 rw [he] at hx
 simp only [he] at hf
 simp only [R] at hx
 obtain ⟨o',e1,p,e2,e3⟩:=hx
 obtain ⟨ty,hty⟩:∃ ty,l.ty = ty:=⟨_,rfl⟩
 rcases hd with ⟨τ,r,hb⟩ | ⟨τ,r,k,x0,of,u,hb⟩
 · simp only [hb] at hf
   obtain ⟨q,hq,b1,b2,b3,b4,b5⟩:=h.mem.box b _ hb
   rw [e1] at hq; cases hq
   obtain ⟨ad,ha,rfl⟩:=e3 q rfl
   split at hf
   · rename_i e hsl
     obtain ⟨y,hy,hf⟩:=Zd0 hf
     split at hf
     · rename_i z x0 hz hx0
       obtain ⟨rfl,rfl⟩:=Zbp hf
       obtain ⟨q1,cv,c1,c2,c3⟩:=h.mem.focus hb0.at0 hb hy hz hx0 e1 ha
       have tr:Tr B F F μ (upd μ base (some q1)) w w:=⟨fun _ x=>x,fun _ _ _ _ e=>e,fun _ _ _ _ e=>e,upd_le (.inl hb0.at0)⟩
       refine Good.value (exec e2 ?_) ⟨c2,tr,Zg2 μ base _⟩ c3
       refine (Zgk hl (cs:=[cv]) (fun j u hj=>?_) (by rw [hsl]; rfl)).2 (by rw [hsl]; rfl) cv rfl
       have hj0:j = 0:=by have:=(List.getElem?_eq_some_iff.1 hj).1; simp at this; exact this
       subst hj0
       simp at hj; subst hj
       rw [Nat.add_zero,b3,← Nat.add_assoc]; exact c1
     · cases hf
   · split at hf
     rotate_left
     · cases hf
     rename_i hsc
     obtain ⟨y,hy,hf⟩:=Zd0 hf
     obtain ⟨ν,hdeep⟩:=h.mem.deep
     obtain ⟨T,t1,t2,t3⟩:=hdeep.nest b _ q hb e1 ad ha
     obtain ⟨i0,i1,i2⟩:=atL_set hy
     obtain ⟨c,g1,g2⟩:=t3 i.toNat y trivial i2
     obtain ⟨rfl,cv,e6,e7⟩:=typed_load (B:=B) (μ:=μ) (F:=T i.toNat) hl (fun _ x=>x) (g1.toRC (fun _ h=>h)) g2 hf
     have e6':(loadVar t ⟨ad.block,ad.off + (i.toNat * q.wd + off),none⟩).run P w = .ok cv w:=by rw [b3,← Nat.add_assoc]; exact e6
     refine Good.same h (exec e2 e6') ?_
     unfold Zgx at hf
     split at hf
     · obtain ⟨rfl,_⟩:=Zbp hf
       obtain ⟨s1,s2⟩:=scal_sl hsc
       simp only [R,s2] at e7 ⊢
       exact RC_noSl s1 e7
     · cases hf
 · simp only [hb] at hf
   obtain ⟨q,hq,⟨b1,b2,b3,b4,b5⟩,b6,b7,b8,b9⟩:=h.mem.box b _ hb
   rw [e1] at hq; cases hq
   obtain ⟨ad,ha,rfl⟩:=e3 q rfl
   split at hf
   · rename_i e hsl
     split at hf
     · rename_i heq
       subst heq
       obtain ⟨hik,hf⟩:=Zc4 hf
       obtain ⟨rfl,rfl⟩:=Zbp hf
       have hik:i = k:=of_decide_eq_true hik
       subst hik
       obtain ⟨cv,c1,c2⟩:=b9 ad ha
       refine Good.same h (exec e2 ?_) c1
       refine (Zgk hl (cs:=[cv]) (fun j u hj=>?_) (by rw [hsl]; rfl)).2 (by rw [hsl]; rfl) cv rfl
       have hj0:j = 0:=by have:=(List.getElem?_eq_some_iff.1 hj).1; simp at this; exact this
       subst hj0
       simp at hj; subst hj
       rw [Nat.add_zero,b3,← Nat.add_assoc]; exact c2
     · cases hf
   · cases hf
theorem good_storeD (h:Pre P E w0 Ob A B F μ s a w) {o:Oper} {t:Nat} {x y:Operand} (ho:o.op = .store t x y) (hd:DeepEp s (opnd E s x)) (hf:opF E o.op base s = some (v,m')):Good P E.G w0 Ob A B F μ base o a w v m':=by
 rw [ho] at hf; simp only [opF,opK] at hf
 obtain ⟨l,hl0,hf⟩:=Zdy hf
 have hl:=h.env.lay t l hl0
 have hx:=h.ev x
 obtain ⟨b,i,off,he,hd⟩:=hd
 rw [he] at hx
 simp only [he] at hf
 simp only [R] at hx
 obtain ⟨o',e1,p,e2,e3⟩:=hx
 rcases hd with ⟨τ,r,hb⟩ | ⟨τ,r,k,x0,of,u,hb⟩
 · simp [hb] at hf
 · simp only [hb] at hf
   obtain ⟨q,hq,⟨b1,b2,b3,b4,b5⟩,b6,b7,b8,b9⟩:=h.mem.box b _ hb
   rw [e1] at hq; cases hq
   obtain ⟨ad,ha,rfl⟩:=e3 q rfl
   split at hf
   rotate_left
   · cases hf
   rename_i e hsl
   split at hf
   rotate_left
   · cases hf
   rename_i c hc
   split at hf
   rotate_left
   · cases hf
   rename_i heq
   obtain ⟨heq,hcb⟩:=heq
   subst heq
   obtain ⟨hik,hf⟩:=Zc4 hf
   obtain ⟨rfl,rfl⟩:=Zbp hf
   have hik:i = k:=of_decide_eq_true hik
   subst hik
   have hy:=h.ev y
   rw [hc] at hy
   have hy0:=hy
   simp only [R] at hy0
   obtain ⟨oy,f1,fa,fn,fc,f2,f3⟩:=hy0
   obtain ⟨k1,k2,k3,k4⟩:=h.mem.own b _ q ad hb rfl e1 ha
   obtain ⟨g1,g2⟩:=b5 ad ha
   have hmul:i.toNat * τ.width + τ.width <= q.cap * τ.width:=by rw [← Nat.succ_mul]; exact Nat.mul_le_mul_right _ (by omega)
   have hst:Stor w ad.block (ad.off + (i.toNat * τ.width + of)) 1:=fun j hj=>by
    have:=g2 (i.toNat * τ.width + of + j) (by omega)
    rwa [← Nat.add_assoc] at this
   let w':=w.setCells ad.block (ad.off + (i.toNat * τ.width + of)) [a.eval y]
   have tr:Tr B F F μ μ w w':=Tr.setCells h.mem k1 k2 _ _
   obtain ⟨ν,hdeep⟩:=h.mem.deep
   have hcell:w'.cell? ⟨ad.block,ad.off + i.toNat * τ.width + of,none⟩ = some (a.eval y):=by
    have:=World.cell?_setCells_in ad.block [a.eval y] (ad.off + (i.toNat * τ.width + of)) w (fun j hj=>by simp at hj; exact (hst j (by omega)).1) 0 (by simp)
    rw [Nat.add_assoc]; simpa using this
   have hout:∀ j,j ≠ i.toNat * τ.width + of -> w'.cell? ⟨ad.block,ad.off + j,none⟩ = w.cell? ⟨ad.block,ad.off + j,none⟩:=fun j hj=>World.cell?_setCells_out _ _ _ _ _ (fun _ _=>by simp; omega)
   have sameν:∀ d z j,s.m.at d = some z -> ν d j -> Same w w' j:=fun d z j hz hj=>Zej w _ _ _ (fun e=>hdeep.apart d z j b _ q ad hz hj hb rfl e1 ha e.symm)
   have hbox:Zd2 F B w' μ (.dpx τ r i x0 of (.arr c)) q:=by
    refine ⟨⟨b1,b2,b3,b4,fun ad' ha'=>⟨(b5 ad' ha').1,(b5 ad' ha').2.set _ _ _⟩⟩,b6,b7,b8,fun ad' ha'=>?_⟩
    rw [ha] at ha'; cases ha'
    exact ⟨_,tr.R hy,hcell⟩
   have hnest:Nest w' q (ν b) (.dpx τ r i x0 of (.arr c)):=by
    intro ad' ha'
    rw [ha] at ha'; cases ha'
    obtain ⟨T,t1,t2,t3,c0,t4,t5⟩:=hdeep.nest b _ q hb e1 ad ha
    refine ⟨T,t1,t2,fun j z hj hz=>?_,c0,t4.frame (fun _ h=>h) (fun j hj=>sameν b _ j hb (t1 _ j hj)),fun j u hj hu=>?_⟩
    · obtain ⟨d,j1,j2⟩:=t3 j z hj hz
      refine ⟨d,j1.frame (fun _ h=>h) (fun k hk=>sameν b _ k hb (t1 _ k hk)),fun n cv hn=>?_⟩
      have hdl:=j1.len
      have hnl:n < τ.width:=by rw [← hdl]; exact (List.getElem?_eq_some_iff.1 hn).1
      have hne:j ≠ i.toNat:=fun e=>hj (by omega)
      rw [Nat.add_assoc,hout _ ?_,← Nat.add_assoc]
      · exact j2 n cv hn
      · intro e
        rcases Nat.lt_or_gt_of_ne hne with hlt | hgt
        · have:j * τ.width + τ.width <= i.toNat * τ.width:=by rw [← Nat.succ_mul]; exact Nat.mul_le_mul_right _ hlt
          omega
        · have:i.toNat * τ.width + τ.width <= j * τ.width:=by rw [← Nat.succ_mul]; exact Nat.mul_le_mul_right _ hgt
          omega
    · rw [Nat.add_assoc,hout _ (by omega),← Nat.add_assoc]
      exact t5 j u hj hu
   have mem:Mem E.G w0 Ob A B F μ ((b,some (.dpx τ r i x0 of (.arr c))) :: s.m) w':=by
    have sameOwn:∀ d z p ad',d ≠ b -> s.m.at d = some z -> z.isFz = false -> μ d = some (some p) -> p.a = some ad' -> Same w w' ad'.block:=fun d z p ad' hn hz hf hp hpa=>Zej w _ _ _ (fun e=>hn (h.mem.inj d b z _ p q ad' ad hz hb hf rfl hp e1 hpa ha e))
    refine ⟨h.mem.ext.setCells k4 _ _,fun d z hz=>?_,fun d z p ad' hz hf hp hpa=>?_,fun d d' z z' p p' ad1 ad2 hz hz' hf hf' hp hp' ha1 ha2 hee=>?_,fun d hd=>by rw [Zee]; exact h.mem.fz d hd,h.mem.bz,⟨fun g cs hg=>tr.R (h.mem.glob.1 g cs hg),h.mem.glob.2⟩,fun d j=>(d = b /\ ν b j) ∨ (d ≠ b /\ ν d j),?_⟩
    · rcases Zgi hz with ⟨rfl,rfl⟩ | ⟨n,hz⟩
      · exact ⟨q,e1,hbox⟩
      · obtain ⟨p,p1,p2⟩:=h.mem.box d z hz
        exact ⟨p,p1,p2.mono tr (fun ad' hf hpa=>sameOwn d z p ad' n hz hf p1 hpa)⟩
    · obtain ⟨z',z1,z2⟩:=Zfw hb rfl hz hf
      rw [Zee]
      exact h.mem.own d z' p ad' z1 z2 hp hpa
    · obtain ⟨u1,z1,z2⟩:=Zfw hb rfl hz hf
      obtain ⟨u2,z3,z4⟩:=Zfw hb rfl hz' hf'
      exact h.mem.inj d d' u1 u2 p p' ad1 ad2 z1 z3 z2 z4 hp hp' ha1 ha2 hee
    · have e:(fun d j=>(d = b /\ ν b j) ∨ (d ≠ b /\ ν d j)) = ν:=by
        funext d j
        by_cases hdb:d = b
        · subst hdb; simp
        · simp [hdb]
      rw [e]
      have old:∀ d z,Hp.at ((b,some (.dpx τ r i x0 of (.arr c))) :: s.m) d = some z -> ∃ z',s.m.at d = some z':=fun d z hz=>by
       rcases Zgi hz with ⟨rfl,rfl⟩ | ⟨_,hz⟩
       · exact ⟨_,hb⟩
       · exact ⟨_,hz⟩
      refine ⟨fun d z p hz hp=>?_,fun d z j hz hj=>?_,fun d z j d' z' p ad' hz hj hz' hf hp hpa=>?_,fun d d' z z' j hz hz' hj hj'=>?_⟩
      · rcases Zgi hz with ⟨rfl,rfl⟩ | ⟨n,hz⟩
        · rw [e1] at hp; cases hp; exact hnest
        · by_cases hf:z.isFz = true
          · exact Ze4 (by cases z <;> first | rfl | cases hf) _ _ _
          · exact (hdeep.nest d z p hz hp).frame (fun j hj=>sameν d z j hz hj) (fun ad' hpa=>sameOwn d z p ad' n hz (by simpa using hf) hp hpa)
      · obtain ⟨z',hz'⟩:=old d z hz
        rw [Zee]; exact hdeep.own d z' j hz' hj
      · obtain ⟨z1,hz1⟩:=old d z hz
        obtain ⟨z2,z3,z4⟩:=Zfw hb rfl hz' hf
        exact hdeep.apart d z1 j d' z2 p ad' hz1 hj z3 z4 hp hpa
      · obtain ⟨z1,hz1⟩:=old d z hz
        obtain ⟨z2,hz2⟩:=old d' z' hz'
        exact hdeep.inj d d' z1 z2 j hz1 hz2 hj hj'
   refine Good.skip ?_ ⟨mem,tr,fun _ _ h=>h⟩
   unfold execOp; rw [ho]
   have hone:=one_ok hy rfl
   have hcs:(a.eval y).cells = #[a.eval y]:=by rw [f2]; rfl
   have hs:(storeVar t ⟨ad.block,ad.off + (i.toNat * q.wd + of),none⟩ (a.eval y)).run P w = .ok () w':=by
    have:=run_storeVar hl (b:=ad.block) (o:=ad.off + (i.toNat * τ.width + of)) (cv:=a.eval y) (w:=w) (P:=P) (by rw [hcs,hsl]; rfl) (by rw [hsl]; exact hst) (fun d hd=>by rw [hcs] at hd; simp at hd; subst hd; exact hone)
    rw [hcs] at this
    rw [b3]; exact this
   simp [e2,Instr.storeAt,Instr.sureAddr,hs]
end
end Go.E
namespace Go.E
open Go Go.RowKit
section
variable {P:Program} {E:Env} {G:List (Nat × List V)} {w0:World} {Ob A B F:Nat -> Prop} {μ:Mu} {m:Hp} {w:World} {base:Nat} {s:St} {a:Act} {v:V} {m':Hp} {ν:Nat -> Nat -> Prop}
def SA (μ:Mu) (ν:Nat -> Nat -> Prop) (m:Hp) (bs:List Nat) (j:Nat):Prop :=
 ∃ b ∈ bs,∃ z,m.at b = some z /\ z.isFz = false /\ ((∃ q ad,μ b = some (some q) /\ q.a = some ad /\ j = ad.block) ∨ ν b j)
theorem SA.apart (h:Mem G w0 Ob A B F μ m w) (hd:DeepOk w0 Ob B F μ m w ν) {l r:List Nat} (hn:∀ b ∈ l,b ∉ r) {j:Nat} (hl:SA μ ν m l j) (hr:SA μ ν m r j):False:=by
 obtain ⟨b,hb,z,z1,z2,z3⟩:=hl
 obtain ⟨c,hc,y,y1,y2,y3⟩:=hr
 have hne:b ≠ c:=fun e=>hn b hb (e ▸ hc)
 rcases z3 with ⟨q,ad,e1,e2,rfl⟩ | z3 <;> rcases y3 with ⟨p,ad',f1,f2,f3⟩ | y3
 · exact hne (h.inj b c z y q p ad ad' z1 y1 z2 y2 e1 f1 e2 f2 f3)
 · exact hd.apart c y _ b z q ad y1 y3 z1 z2 e1 e2 rfl
 · exact hd.apart b z _ c y p ad' z1 z3 y1 y2 f1 f2 f3.symm
 · exact hne (hd.inj b c z y j z1 y1 z3 y3)
theorem own_DR (h:Mem G w0 Ob A B F μ m w) (hd:DeepOk w0 Ob B F μ m w ν) {c:Nat} {e:Ty} {y:List (D e)} {z:Bx} (hc:m.at c = some z) (hz:(z = .rows e y /\ e.hasSl = false) ∨ z = .dp e y) {cv:Value} (hr:R F B w μ (.arr c) cv) :
  DR w (.sl e) (SA μ ν m [c]) y [cv]:=by
 have hzf:z.isFz = false:=by rcases hz with ⟨rfl,_⟩ | rfl <;> rfl
 obtain ⟨qc,hqc,hcx⟩:=h.box c z hc
 simp only [R] at hr
 obtain ⟨o,e1,a,n,cp,rfl,e2⟩:=hr
 rw [hqc] at e1; cases e1
 obtain ⟨rfl,rfl,rfl⟩:=e2 qc rfl
 have hnz:Nest w qc (ν c) z:=hd.nest c z qc hc hqc
 have inS:∀ ad,qc.a = some ad -> SA μ ν m [c] ad.block:=fun ad ha=>⟨c,by simp,z,hc,hzf,.inl ⟨qc,ad,hqc,ha,rfl⟩⟩
 rcases hz with ⟨rfl,hsl⟩ | rfl
 · obtain ⟨r1,r2,r3,r4,r5⟩:=hcx
   refine ⟨qc.a,qc.cap,by rw [r1],r1 ▸ r2,r4,fun ad ha=>⟨(r5 ad ha).1,inS ad ha,by rw [← r3]; have:=(r5 ad ha).2.2; rwa [← r3] at this,fun _ _=>False,fun _ _ h=>h.elim,fun _ _ _ h=>h.elim,fun i u _ hu=>?_⟩⟩
   obtain ⟨d,d1,d2⟩:=(r5 ad ha).2.1 i u hu
   exact ⟨d,RC_DR hsl d1,d2⟩
 · obtain ⟨r1,r2,r3,r4,r5⟩:=hcx
   refine ⟨qc.a,qc.cap,by rw [r1],r1 ▸ r2,r4,fun ad ha=>⟨(r5 ad ha).1,inS ad ha,(r5 ad ha).2,?_⟩⟩
   exact (hnz ad ha).mono (fun j hj=>⟨⟨c,by simp,_,hc,hzf,.inr hj⟩,fun ej=>hd.apart c _ j c _ qc ad hc hj hc hzf hqc ha ej.symm⟩) (fun _ h=>h) (fun _ _ _ _ h=>h) rfl
theorem typed1_D (h:Mem G w0 Ob A B F μ m w) (hd:DeepOk w0 Ob B F μ m w ν) {v:V} {cv:Value} (hr:R F B w μ v cv) (hc:cellD m v = true) {τ:Ty} {x:D τ} (hl:Zel m τ v = some x):DR w τ (SA μ ν m (Ze3 v)) x [cv]:=by
 unfold cellD at hc
 split at hc
 · rename_i σ y
   simp only [Zel] at hl
   obtain ⟨e,rfl⟩:=Zcb hl
   cases e
   obtain ⟨s1,s2⟩:=scal_sl hc
   simp only [R,s2] at hr
   exact RC_DR s1 hr
 · simp only [R] at hr
   subst hr
   cases τ with
   | sl e =>
     simp [Zel,Zeq] at hl
     subst hl
     exact DR_nil
   | _=>simp [Zel] at hl
 · rename_i b
   cases τ with
   | sl e =>
     split at hc
     · rename_i σ y hb
       have hl:=Zin hb hl
       obtain ⟨e',rfl⟩:=Zcb hl
       cases e'
       exact own_DR h hd hb (.inl ⟨rfl,by simpa using hc⟩) hr
     · rename_i σ y hb
       have hl:Zev (τ:=.sl σ) (σ:=.sl e) y = some x:=by
        rcases typed1_arr hl with h | h
        · simp [Zeq,hb] at h
        · simpa only [dpOf,hb] using h
       obtain ⟨e',rfl⟩:=Zcb hl
       cases e'
       exact own_DR h hd hb (.inr rfl) hr
     · cases hc
   | _=>simp [Zel] at hl
 · cases hc
theorem SA.sub {l r:List Nat} (h:∀ b ∈ l,b ∈ r) {j:Nat} (hj:SA μ ν m l j):SA μ ν m r j:=by
 obtain ⟨b,hb,k⟩:=hj
 exact ⟨b,h b hb,k⟩
theorem asmD (h:Mem G w0 Ob A B F μ m w) (hd:DeepOk w0 Ob B F μ m w ν):∀ (τ:Ty) (hq:τ.noQ = true) {cs:List V} {vs:List Value} (hr:RL F B w μ cs vs) (hc:cs.all (cellD m) = true) (hn:(cs.flatMap Ze3).Nodup) {x:D τ} {r:List V} (hl:asm m τ cs = some (x,r)),
  ∃ v1 v2 bs,vs = v1 ++ v2 /\ RL F B w μ r v2 /\ r.all (cellD m) = true /\ cs.flatMap Ze3 = bs ++ r.flatMap Ze3 /\ DR w τ (SA μ ν m bs) x v1:=by
 intro τ
 have leaf:∀ (τ:Ty),τ.agg = false -> τ ≠ .unit -> ∀ {cs:List V} {vs:List Value} (hr:RL F B w μ cs vs) (hc:cs.all (cellD m) = true) {x:D τ} {r:List V} (hl:asm m τ cs = some (x,r)),
   ∃ v1 v2 bs,vs = v1 ++ v2 /\ RL F B w μ r v2 /\ r.all (cellD m) = true /\ cs.flatMap Ze3 = bs ++ r.flatMap Ze3 /\ DR w τ (SA μ ν m bs) x v1:=by
  intro τ hτ hu cs vs hr hc x r hl
  obtain ⟨v,rfl,hl2⟩:=Zeg hτ hu hl
  cases vs with
  | nil=>simp [RL] at hr
  | cons cv vs =>
    simp only [RL] at hr
    simp only [List.all_cons,Bool.and_eq_true] at hc
    exact ⟨[cv],vs,Ze3 v,rfl,hr.2,hc.2,by simp,typed1_D h hd hr.1 hc.1 hl2⟩
 induction τ with
 | pr a b iha ihb =>
   intro hq cs vs hr hc hn x r hl
   simp only [Ty.noQ,Bool.and_eq_true] at hq
   simp only [asm] at hl
   split at hl
   · rename_i y r1 h1
     split at hl
     · rename_i z r2 h2
       cases hl
       obtain ⟨v1,v2,b1,rfl,k1,k2,k3,k4⟩:=iha hq.1 hr hc hn h1
       have hn':=hn
       rw [k3,List.nodup_append] at hn'
       obtain ⟨v3,v4,b2,rfl,k5,k6,k7,k8⟩:=ihb hq.2 k1 k2 hn'.2.1 h2
       refine ⟨v1 ++ v3,v4,b1 ++ b2,by simp,k5,k6,by rw [k3,k7,List.append_assoc],SA μ ν m b1,SA μ ν m b2,v1,v3,rfl,fun j=>SA.sub (fun b hb=>List.mem_append_left _ hb),fun j=>SA.sub (fun b hb=>List.mem_append_right _ hb),fun j h1 h2=>?_,k4,k8⟩
       exact SA.apart h hd (fun b hb hb'=>hn'.2.2 b hb b (by rw [k7]; exact List.mem_append_left _ hb') rfl) h1 h2
     · cases hl
   · cases hl
 | unit =>
   intro _ cs vs hr hc hn x r hl
   simp only [asm,Option.some.injEq,Prod.mk.injEq] at hl
   obtain ⟨_,rfl⟩:=hl
   exact ⟨[],vs,[],rfl,hr,hc,rfl,rfl⟩
 | q=>intro hq; cases hq
 | int k=>intro _ cs vs hr hc hn x r hl; exact leaf (.int k) rfl (by simp) hr hc hl
 | bool=>intro _ cs vs hr hc hn x r hl; exact leaf .bool rfl (by simp) hr hc hl
 | str=>intro _ cs vs hr hc hn x r hl; exact leaf .str rfl (by simp) hr hc hl
 | err=>intro _ cs vs hr hc hn x r hl; exact leaf .err rfl (by simp) hr hc hl
 | sl e=>intro _ cs vs hr hc hn x r hl; exact leaf (.sl e) rfl (by simp) hr hc hl
theorem killL_at (bs:List Nat):∀ (m:Hp) (d:Nat),Hp.at (bs.foldl (fun (m:Hp) b=>(b,none) :: m) m) d = if d ∈ bs then none else m.at d:=by
 induction bs with
 | nil=>intro m d; simp
 | cons b bs ih =>
   intro m d
   rw [List.foldl_cons,ih,Hp.at_cons]
   by_cases h1:d ∈ bs
   · simp [h1]
   · by_cases h2:b = d
     · subst h2; simp
     · simp [h1,h2,Ne.symm h2]
theorem Mem.killL (bs:List Nat):∀ {m:Hp},Mem G w0 Ob A B F μ m w -> Mem G w0 Ob A B F μ (bs.foldl (fun (m:Hp) b=>(b,none) :: m) m) w:=by
 induction bs with
 | nil=>intro m h; exact h
 | cons b bs ih=>intro m h; exact ih (h.kill b)
theorem DeepOk.killL (bs:List Nat):∀ {m:Hp},DeepOk w0 Ob B F μ m w ν -> DeepOk w0 Ob B F μ (bs.foldl (fun (m:Hp) b=>(b,none) :: m) m) w ν:=by
 induction bs with
 | nil=>intro m h; exact h
 | cons b bs ih=>intro m h; exact ih (h.kill b)
theorem free_SA (h:Mem G w0 Ob A B F μ m w) (hd:DeepOk w0 Ob B F μ m w ν) {bs:List Nat} {j:Nat} (hj:SA μ ν m bs j):FreeB w0 Ob B F μ (bs.foldl (fun (m:Hp) b=>(b,none) :: m) m) w ν j:=by
 have old:∀ d u,Hp.at (bs.foldl (fun (m:Hp) b=>(b,none) :: m) m) d = some u -> d ∉ bs /\ m.at d = some u:=fun d u hu=>by
  rw [killL_at] at hu
  split at hu
  · cases hu
  · exact ⟨‹_›,hu⟩
 obtain ⟨b,hb,z,z1,z2,z3⟩:=hj
 rcases z3 with ⟨q,ad,e1,e2,rfl⟩ | z3
 · have f:=free_block h hd z1 z2 e1 e2
   refine ⟨f.fz,f.bz,f.lt,f.io,fun d u p ad' hu hf hp ha=>?_,fun d u hu hv=>?_⟩
   · obtain ⟨n,hu⟩:=old d u hu
     exact fun e=>n (h.inj d b u z p q ad' ad hu z1 hf z2 hp e1 ha e2 e ▸ hb)
   · obtain ⟨n,hu⟩:=old d u hu
     exact hd.apart d u _ b z q ad hu hv z1 z2 e1 e2 rfl
 · have f:=free_nest h hd z1 z3
   refine ⟨f.fz,f.bz,f.lt,f.io,fun d u p ad' hu hf hp ha=>?_,fun d u hu hv=>?_⟩
   · obtain ⟨n,hu⟩:=old d u hu
     exact hd.apart b z j d u p ad' z1 z3 hu hf hp ha
   · obtain ⟨n,hu⟩:=old d u hu
     exact n (hd.inj d b u z j hu z1 hv z3 ▸ hb)
theorem exec_buildSlice {o:Oper} {t len e:Nat} {parts:Array (Nat × Operand)} (ho:o.op = .buildSlice t len parts) {le:TL} {L:List (Nat × TL)} (lay:Lay P L e le) (hu:P.underlying t = some (.slice e)) (hsm:¬ 2 ^ 20 < len * le.ty.width) {cells':Array Value}
  (hfl:∀ z:Array Value,z.size = le.ty.width -> Instr.fill (fun i=>some (i * le.ty.width,le.ty.width)) ((Array.range (len * le.ty.width)).map (z[· % z.size]!)) (parts.map fun p=>(p.1,a.eval p.2)).toList = some cells') :
  (execOp a.eval o).run P w = .ok (.value (.slice (some ⟨w.heap.size,0,none⟩) len len)) (w.alloc (.cells cells' e)):=by
 obtain ⟨i,i1,i2,_,zi,i3,i4⟩:=lay.size
 have hzs:zi.cells.size = le.ty.width:=by
  have:=congrArg List.length i4
  simpa [lay.zlen] using this
 have hfill:=hfl zi.cells hzs
 unfold execOp; rw [ho]
 by_cases h0:len * le.ty.width = 0
 · have hl0:len = 0:=by
     rcases Nat.mul_eq_zero.1 h0 with h | h
     · exact h
     · exact absurd h lay.pos
   subst hl0
   rw [Nat.zero_mul] at hfill
   have e0:(Array.range 0).map (fun x=>zi.cells[x % zi.cells.size]!) = #[]:=by rw [Array.range_zero',Array.map_empty]
   rw [e0] at hfill
   have hb':(Instr.buildSlice t 0 (parts.map fun p=>(p.1,a.eval p.2))).run P w = .ok (.slice (some ⟨w.heap.size,0,none⟩) 0 0) (w.alloc (.cells cells' e)):=by
    unfold Instr.buildSlice
    simp only [Sem.run_bind,run_underlying hu,Result.andThen_ok,lay.run_size,Nat.zero_mul]
    simp only [if_neg (by omega:¬ (0 > 2 ^ 24)),if_true,Sem.run_bind,Sem.run_pure,Result.andThen_ok]
    have e1:(Array.range 0).map (fun x=>(#[]:Array Value)[x % (#[]:Array Value).size]!) = #[]:=by rw [Array.range_zero',Array.map_empty]
    rw [e1,hfill]
    simp only [Sem.run_bind,run_newRow,Result.andThen_ok,Sem.run_pure]
   simp only [Sem.run_bind,hb',Result.andThen_ok,Sem.run_pure]
 · have:=run_buildSlice (P:=P) w t e len (parts.map fun p=>(p.1,a.eval p.2)) cells' i zi hu i1 i3 (by rw [i2]; omega) (by rw [i2]; exact h0) (by rw [i2]; exact hfill)
   simp only [Sem.run_bind,this,Result.andThen_ok,Sem.run_pure]
theorem good_buildSliceD (h:Pre P E w0 Ob A B F μ s a w) (hb:Zgz μ base) {o:Oper} {t len:Nat} {parts:Array (Nat × Operand)} (ho:o.op = .buildSlice t len parts) (hnd:∃ τ r m2,m' = (base,some (.dp τ r)) :: m2) (hf:opF E o.op base s = some (v,m')):Good P E.G w0 Ob A B F μ base o a w v m':=by
 rw [ho] at hf; simp only [opF,opK] at hf
 obtain ⟨l,e,le,hl,hk,hle,hf⟩:=Zg0 hf
 have hu:=(h.env.lay t l hl).kind
 rw [hk] at hu
 replace hu:=hu.1
 have lay:=h.env.lay e le hle
 split at hf
 · cases hf
 rename_i hsm
 obtain ⟨z,hz,hf⟩:=Zgj hf
 split at hf
 rotate_left
 · cases hf
 rename_i rows hrows
 split at hf
 · obtain ⟨τ,r,m2,e⟩:=hnd
   rw [e] at hf
   have:=(Zbp hf).2
   simp at this
 split at hf
 rotate_left
 · cases hf
 rename_i hpd
 obtain ⟨rfl,rfl⟩:=Zbp hf
 simp only [Bool.and_eq_true] at hpd
 obtain ⟨hq,hpd⟩:=hpd
 obtain ⟨ν,hd⟩:=h.mem.deep
 obtain ⟨cells',Sx,hfl,hsz,hlen,hfree,hels⟩:∃ (cells':Array Value) (Sx:Nat -> Prop),(∀ z:Array Value,z.size = le.ty.width -> Instr.fill (fun i=>some (i * le.ty.width,le.ty.width)) ((Array.range (len * le.ty.width)).map (z[· % z.size]!)) (parts.map fun p=>(p.1,a.eval p.2)).toList = some cells') /\
   cells'.size = len * le.ty.width /\ rows.length = len /\ (∀ j,Sx j -> FreeB w0 Ob B F μ (killVs ((Ze9 E s parts.toList).map (·.2)) s.m) w ν j) /\ Zf2 w Sx le.ty rows cells'.toList:=by
  obtain ⟨pl,hpl⟩:∃ pl,parts.toList = pl:=⟨_,rfl⟩
  have hmap:(parts.map fun p=>(p.1,a.eval p.2)).toList = pl.map fun p=>(p.1,a.eval p.2):=by rw [← hpl]; simp
  rw [hpl] at hrows hpd ⊢
  rw [hmap]
  cases pl with
  | nil =>
    simp only [Ze9,List.map_nil,partsD,decide_eq_true_eq] at hpd
    subst hpd
    simp only [Ze9,List.map_nil,Ziy,Option.some.injEq] at hrows
    subst hrows
    refine ⟨#[],fun _=>False,fun z _=>?_,by simp,by simp,fun _ h=>h.elim,by simp; exact .nil⟩
    simp [Instr.fill]
  | cons p pl =>
    cases pl with
    | cons p2 pl=>simp [Ze9,partsD] at hpd
    | nil =>
      obtain ⟨i,x⟩:=p
      have hx:=h.ev x
      simp only [Ze9,List.map_cons,List.map_nil] at hrows hpd ⊢
      obtain ⟨vx,hvx⟩:∃ vx,opnd E s x = vx:=⟨_,rfl⟩
      rw [hvx] at hx hrows hpd ⊢
      unfold partsD at hpd
      split at hpd
      · rename_i heq; cases heq
      · rename_i j cs heq
        simp only [List.cons.injEq,Prod.mk.injEq,and_true] at heq
        obtain ⟨rfl,rfl⟩:=heq
        simp only [Bool.and_eq_true,decide_eq_true_eq] at hpd
        obtain ⟨⟨rfl,hcs⟩,hnod⟩:=hpd
        simp only [Ziy,Zgh] at hrows
        simp only [R] at hx
        obtain ⟨vs,hvs,hrl⟩:=hx
        split at hrows
        · rename_i y hy
          split at hy
          · split at hy
            · rename_i y' hasm
              cases hy
              obtain ⟨v1,v2,bs,e1,e2,e3,e4,e5⟩:=asmD h.mem hd le.ty hq hrl hcs hnod hasm
              have hv2:v2 = []:=by cases v2 <;> simp [RL] at e2 ⊢
              subst hv2
              simp only [List.append_nil,List.flatMap_nil] at e1 e4
              subst e4
              split at hrows
              · rename_i hi
                simp only [List.length_replicate] at hi
                have hi0:i = 0:=by omega
                subst hi0
                cases hrows
                have hv1:v1.length = le.ty.width:=e5.len
                have hvsz:vs.size = le.ty.width:=by rw [← Array.length_toList,e1]; exact hv1
                refine ⟨vs,SA μ ν s.m (cs.flatMap Ze3),fun z hzs=>?_,by rw [hvsz]; omega,by simp,fun j hj=>?_,?_⟩
                · obtain ⟨c2,k1,k2,k3⟩:=fill_step (place:=fun i=>some (i * le.ty.width,le.ty.width)) (cells:=(Array.range (1 * le.ty.width)).map (z[· % z.size]!)) (i:=0) (v:=a.eval x) (rest:=[]) rfl (by rw [hvs]; exact hvsz) (by simp)
                  rw [k1]
                  have:c2 = vs:=by
                   apply Array.toList_inj.1
                   rw [k2,hvs]
                   simp only [Nat.zero_mul,List.take_zero,List.nil_append,Nat.zero_add]
                   rw [List.drop_eq_nil_of_le (by simp),List.append_nil]; rfl
                  rw [this]; rfl
                · have:=free_SA h.mem hd hj
                  simpa [killVs,arrs] using this
                · refine ⟨fun i j=>i = 0 /\ SA μ ν s.m (cs.flatMap Ze3) j,fun i j hj=>hj.2,fun i i' j hj hj'=>by rw [hj.1,hj'.1],fun i y'' hy''=>?_⟩
                  have hi0:i = 0:=by have:=(List.getElem?_eq_some_iff.1 hy'').1; simp at this; exact this
                  subst hi0
                  simp at hy''
                  subst hy''
                  rw [Nat.zero_mul,List.drop_zero,e1,List.take_of_length_le (by omega)]
                  exact e5.sub (fun j hj=>⟨rfl,hj⟩)
              · cases hrows
            · cases hy
          · cases hy
        · cases hrows
      · cases hpd
 let q1:MB:=⟨some ⟨w.heap.size,0,none⟩,len,len,le.ty.width⟩
 have hsame:∀ c,c < w.heap.size -> Same w (w.alloc (.cells cells' e)) c:=fun c hc=>Zfk w _ hc
 obtain ⟨mem,tr⟩:=(h.mem.killL _).addD (hd.killL _) hb.at0 (h.mem.ext.alloc (.cells cells' e)) (by simp) (W:=fun _=>False) (Sx:=Sx) (fun c hc _=>hsame c hc) (fun _ h=>h.elim) (l:=rows) (q1:=q1)
  ⟨hlen.symm,Nat.le_refl _,rfl,fun e=>(by cases e),fun ad ha=>by
   cases ha
   refine ⟨rfl,fun k hk=>?_⟩
   simp only [Nat.zero_add]
   have hk':k < cells'.size:=by rw [hsz]; exact hk
   exact ⟨by rw [Zig,Array.getElem?_eq_getElem hk']; rfl,by rw [frozen_new]; simp⟩⟩
  (fun ad ha=>by cases ha; exact .inr ⟨Nat.le_refl _,by simp⟩)
  (fun j hj=>⟨hfree j hj,fun ad ha e=>by cases ha; have:=(hfree j hj).lt; simp at e; omega⟩)
  (fun ad ha=>by
   cases ha
   refine hels.at_ (fun j u hj=>?_) (fun j hj=>hsame j (hfree j hj).lt)
   simp only [Nat.zero_add]
   rw [Zig]; simpa using hj)
 refine Good.value (exec_buildSlice ho lay hu hsm hfl) ⟨mem,tr,Zg2 μ base _⟩ ?_
 simp only [R]
 exact ⟨some q1,by simp [upd],_,_,_,rfl,fun q hq=>by cases hq; exact ⟨rfl,rfl,rfl⟩⟩
end
end Go.E
namespace Go.E
open Go Go.RowKit
section
variable {P:Program} {E:Env} {G:List (Nat × List V)} {w0:World} {Ob A B F:Nat -> Prop} {μ:Mu} {m:Hp} {w:World} {base:Nat} {s:St} {a:Act} {v:V} {m':Hp} {ν:Nat -> Nat -> Prop}
structure KeyR (P:Program) (k:Nat) (κ:Ty):Prop where
 check:∀ (em:Bool) (w:World) (a:D κ),(Instr.checkKey em 10000 k (encV κ a)).run P w = .ok () w
 find:∀ (w:World) (a:D κ) (es:List MapEntry),(∀ e ∈ es,∃ b,e.key = encV κ b) -> ((Instr.findKey k (encV κ a) es).run P w = .ok none w /\ ∀ e ∈ es,e.key ≠ encV κ a) ∨
  ∃ j e,(Instr.findKey k (encV κ a) es).run P w = .ok (some (j,e.val)) w /\ es[j]? = some e /\ e.key = encV κ a
 stays:∀ (w:World) (a:D κ),(Instr.keyThatStays (encV κ a) (encV κ a)).run P w = .ok (encV κ a) w
 eq:∀ a b:D κ,eqDr κ a b = true ↔ a = b
 inj:∀ a b:D κ,encV κ a = encV κ b -> a = b
 enc:∀ (F:Nat -> Prop) (w:World) (a:D κ) (cs:List Value),RC F w κ a cs -> cs = encC κ a
theorem keyR_plain {k:Nat} {d:TypeDesc} {κ:Ty} (hk:P.underlying k = some d) (hi:∀ a:D κ,MapKept.IsKey d (encV κ a)) (eq:∀ a b:D κ,eqDr κ a b = true ↔ a = b) (inj:∀ a b:D κ,encV κ a = encV κ b -> a = b)
  (enc:∀ (F:Nat -> Prop) (w:World) (a:D κ) (cs:List Value),RC F w κ a cs -> cs = encC κ a):KeyR P k κ where
 check em w a:=MapKept.run_checkKey hk (hi a) em 9999
 find w a es hes:=by
  rcases MapKept.findNow_spec (hi a) es 0 (fun e he=>by obtain ⟨b,hb⟩:=hes e he; rw [hb]; exact hi b) with ⟨h1,h2⟩ | ⟨j,e,h1,h2,h3⟩
  · exact .inl ⟨MapKept.run_findKey hk h1,h2⟩
  · exact .inr ⟨j,e,by rw [Nat.zero_add] at h1; exact MapKept.run_findKey hk h1,h2,h3⟩
 stays w a:=MapKept.run_keyThatStays (hi a)
 eq:=eq
 inj:=inj
 enc:=enc
theorem ba_eq (a b:ByteArray):eqDr .str a b = true ↔ a = b:=by simp [eqDr]
theorem keyR_struct (hE:EnvOk P E) {k t u:Nat} {l lt lu:TL} (hl:look E.L k = some l) (hk:l.k = .st [(0,t),(1,u)]) (ht:look E.L t = some lt) (hu:look E.L u = some lu) (hkt:lt.k = .str) (hku:lu.k = .str):KeyR P k (.pr .str .str):=by
 have lk:=(hE.lay k l hl).kind
 rw [hk] at lk
 obtain ⟨fields,hun,hfs,hfl,hst,hgt⟩:=lk
 have hut:=(hE.lay t lt ht).kind; rw [hkt] at hut
 have huu:=(hE.lay u lu hu).kind; rw [hku] at huu
 obtain ⟨f1,f2,hff⟩:∃ f1 f2,fields.toList = [f1,f2]:=by
  have:=congrArg List.length hfs
  simp only [List.length_cons,List.length_nil,List.length_map] at this
  match hh:fields.toList,this with
  | [f1,f2],_=>exact ⟨f1,f2,rfl⟩
 rw [hff] at hfs hfl
 simp only [List.map_cons,List.map_nil,List.cons.injEq,Prod.mk.injEq,and_true] at hfs
 obtain ⟨⟨o1,t1⟩,o2,t2⟩:=hfs
 have n1:f1.name ≠ "_":=by have:=(hfl f1 (by simp)).1; simpa using this
 have n2:f2.name ≠ "_":=by have:=(hfl f2 (by simp)).1; simpa using this
 have na:lt.ty.agg = false:=by rw [hut.2]; rfl
 have nb:lu.ty.agg = false:=by rw [huu.2]; rfl
 have ev:∀ a:D (.pr .str .str),encV (.pr .str .str) a = .agg #[.string a.1,.string a.2]:=fun a=>rfl
 have inj:∀ a b:D (.pr .str .str),encV (.pr .str .str) a = encV (.pr .str .str) b -> a = b:=fun a b h=>by
  rw [ev,ev] at h
  simp at h
  exact Prod.ext h.1 h.2
 have deq:∀ a b:D (.pr .str .str),eqDr (.pr .str .str) a b = true ↔ a = b:=fun a b=>by
  simp only [eqDr,Bool.and_eq_true,decide_eq_true_eq]
  exact ⟨fun h=>Prod.ext h.1 h.2,fun h=>by rw [h]; exact ⟨rfl,rfl⟩⟩
 have equal:∀ (w:World) (a b:D (.pr .str .str)),(Op.equal k (encV _ a) (encV _ b)).run P w = .ok (eqDr (.pr .str .str) a b) w:=fun w a b=>by
  show (Op.equalIn 10000 k (.agg #[.string a.1,.string a.2]) (.agg #[.string b.1,.string b.2])).run P w = _
  have hfe:P.fieldsOf k = fields:=by simp [Program.fieldsOf,hun]
  rw [run_equalIn_struct (P:=P) w 9999 k _ _ (by rw [hfe]; exact hun) hst,hfe,hff]
  refine run_eqL (F:=fun _=>False) (B:=fun _=>False) (μ:=fun _=>none) hE 9998 [f1,f2] 0 [.val .str a.1,.val .str a.2] [.val .str b.1,.val .str b.2] [.string a.1,.string a.2] [.string b.1,.string b.2] ?_ (fun f hf=>by
   simp at hf; rcases hf with rfl | rfl
   · simpa using n1
   · simpa using n2) (fun j v hj=>by simpa using hj) (fun j v hj=>by simpa using hj) (by simp only [RL,and_true]; exact ⟨mk_str _,mk_str _⟩) (by simp only [RL,and_true]; exact ⟨mk_str _,mk_str _⟩) _ ?_
  · intro j f hj
    match j,hj with
    | 0,hj=>simp at hj; subst hj; omega
    | 1,hj=>simp at hj; subst hj; omega
    | j + 2,hj=>simp at hj
  · simp only [List.map_cons,List.map_nil,eqL,← t1,← t2,ht,hu,hkt,hku,eqB,eqDr]
    simp only [eqS]
    cases decide (a.1 = b.1) <;> cases decide (a.2 = b.2) <;> rfl
 have wide:(match P.underlying k with | some (.array _ _) | some (.struct _)=>true | _=>false) = true:=by rw [hun]
 refine ⟨fun em w a=>?_,fun w a es hes=>?_,fun w a=>?_,deq,inj,fun F w a cs h=>?_⟩
 · rw [ev]
   have p1:(part t #[.string a.1,.string a.2] 0).run P w = .ok (.string a.1) w:=Zhd hE ht na (by simp)
   have p2:(part u #[.string a.1,.string a.2] 1).run P w = .ok (.string a.2) w:=Zhd hE hu nb (by simp)
   have c1:(Instr.checkKey em 9999 t (.string a.1)).run P w = .ok () w:=MapKept.run_checkKey hut.1 (by trivial) em 9998
   have c2:(Instr.checkKey em 9999 u (.string a.2)).run P w = .ok () w:=MapKept.run_checkKey huu.1 (by trivial) em 9998
   have hfa:fields = #[f1,f2]:=Zfp hff
   show (Instr.checkKey em (9999 + 1) k _).run P w = _
   unfold Instr.checkKey
   simp only [Sem.run_bind,run_underlying hun,Result.andThen_ok,hfa]
   rw [← Array.forIn_toList]
   simp only [List.forIn_cons,List.forIn_nil,Sem.run_bind,n1,n2,ne_eq,not_false_eq_true,if_true,Result.andThen_ok,← o1,← o2,← t1,← t2,p1,p2,c1,c2,Sem.run_pure]
 · rw [run_findKey_eq w wide]
   have go:∀ (es:List MapEntry) (i:Nat),(∀ e ∈ es,∃ b,e.key = encV (.pr .str .str) b) -> ((Instr.findAsking k (encV _ a) es i).run P w = .ok none w /\ ∀ e ∈ es,e.key ≠ encV _ a) ∨
     ∃ j e,(Instr.findAsking k (encV _ a) es i).run P w = .ok (some (i + j,e.val)) w /\ es[j]? = some e /\ e.key = encV _ a:=by
    intro es
    induction es with
    | nil=>intro i _; exact .inl ⟨by simp [Instr.findAsking],by simp⟩
    | cons e es ih =>
      intro i hes
      obtain ⟨b,hb⟩:=hes e (by simp)
      have q:=equal w a b
      rw [← hb] at q
      cases hc:eqDr (.pr .str .str) a b with
      | true =>
        rw [hc] at q
        exact .inr ⟨0,e,by simp [Instr.findAsking,q],rfl,by rw [hb,(deq a b).1 hc]⟩
      | false =>
        rw [hc] at q
        have hne:e.key ≠ encV _ a:=fun h=>by
         have:=inj a b (by rw [← hb,h])
         rw [(deq a b).2 this] at hc; cases hc
        rcases ih (i + 1) (fun x hx=>hes x (by simp [hx])) with ⟨h1,h2⟩ | ⟨j,e',h1,h2,h3⟩
        · refine .inl ⟨by simp [Instr.findAsking,q,h1],fun x hx=>?_⟩
          rcases List.mem_cons.1 hx with rfl | hx
          · exact hne
          · exact h2 x hx
        · exact .inr ⟨j + 1,e',by simp [Instr.findAsking,q,h1,Nat.add_assoc,Nat.add_comm 1 j],by simpa using h2,h3⟩
   have:=go es 0 hes
   simpa using this
 · rw [ev]
   have:Instr.sameBits 10000 (.agg #[.string a.1,.string a.2]) (.agg #[.string a.1,.string a.2]) = true:=by
    show Instr.sameBits (9999 + 1) _ _ = true
    simp [Instr.sameBits,MapKept.bytes_beq]
   simp [Instr.keyThatStays,this]
 · simp only [RC] at h
   obtain ⟨c,d,rfl,rfl,rfl⟩:=h
   rfl
theorem keyR_ok (hE:EnvOk P E) {k:Nat} {l:TL} (hl:look E.L k = some l) (h:keyOk E.L l = true):KeyR P k l.ty:=by
 have lk:=(hE.lay k l hl).kind
 unfold keyOk at h
 split at h
 · rename_i kd e
   rw [e] at lk
   rw [lk.2]
   exact keyR_plain lk.1 (fun a=>rfl) (fun a b=>by simp [eqDr]) (fun a b h=>by simpa [encV,encC,Ty.agg] using h) (fun F w a cs h=>by simpa [RC,encC] using h)
 · rename_i e
   rw [e] at lk
   rw [lk.2]
   exact keyR_plain lk.1 (fun a=>trivial) ba_eq (fun a b h=>by simpa [encV,encC,Ty.agg] using h) (fun F w a cs h=>by simpa [RC,encC] using h)
 · rename_i fs e
   split at h
   · rename_i t u
     split at h
     · rename_i lt lu ht hu
       split at h
       · rename_i e1 e2
         have h:=of_decide_eq_true h
         rw [h]
         exact keyR_struct hE hl e ht hu e1 e2
       · cases h
     · cases h
   · cases h
 · cases h
end
end Go.E
namespace Go.E
open Go Go.RowKit Go.ChangeMaps
section
variable {P:Program} {E:Env} {G:List (Nat × List V)} {w0:World} {Ob A B F:Nat -> Prop} {μ:Mu} {m:Hp} {w:World} {base:Nat} {s:St} {a:Act} {v:V} {m':Hp} {ν:Nat -> Nat -> Prop}
theorem Mem.setX (h:Mem G w0 Ob A B F μ m w) (hd:DeepOk w0 Ob B F μ m w ν) {b:Nat} {x x':Bx} {q:MB} (hb:m.at b = some x) (hz:x.isFz = false) (hq:μ b = some (some q)) {w':World} (hext:Ext (G = []) Ob w0 w') (hsz:w.heap.size <= w'.heap.size) {W S:Nat -> Prop}
  (hsame:∀ c,c < w.heap.size -> ¬ W c -> Same w w' c) (hW:∀ c,W c -> (∃ ad,q.a = some ad /\ c = ad.block) ∨ ν b c) (hz':x'.isFz = false) (hbox:Zd2 F B w' μ x' q) (hS:∀ j,S j -> ν b j ∨ FreeB w0 Ob B F μ m w ν j) (hnest:Nest w' q S x') :
  Mem G w0 Ob A B F μ ((b,some x') :: m) w' /\ Tr B F F μ μ w w':=by
 have wOwn:∀ c,W c -> ¬ F c /\ ¬ B c /\ c < w.heap.size /\ (w0.heap.size <= c ∨ Ob c):=fun c hc=>by
  rcases hW c hc with ⟨ad,ha,rfl⟩ | hv
  · exact h.own b x q ad hb hz hq ha
  · exact hd.own b x c hb hv
 have keep:∀ c,c < w.heap.size -> ¬ W c -> ∀ off v,w.cell? ⟨c,off,none⟩ = some v -> w'.cell? ⟨c,off,none⟩ = some v:=fun c hc hn off v e=>by rw [(hsame c hc hn).cell off]; exact e
 have tr:Tr B F F μ μ w w':=⟨fun _ x=>x,fun c off v hc e=>keep c (h.fz c hc).1 (fun hw=>(wOwn c hw).1 hc) off v e,fun c off v hc e=>keep c (h.block_lt hc) (fun hw=>(wOwn c hw).2.1 hc) off v e,μ.le_refl⟩
 have sameOwn:∀ d z p ad,d ≠ b -> m.at d = some z -> z.isFz = false -> μ d = some (some p) -> p.a = some ad -> Same w w' ad.block:=fun d z p ad hn e1 e2 e3 e4 =>
  hsame _ (h.own d z p ad e1 e2 e3 e4).2.2.1 (fun hw=>by
   rcases hW _ hw with ⟨ad',ha,e⟩ | hv
   · exact hn (h.inj d b z x p q ad ad' e1 hb e2 hz e3 hq e4 ha e)
   · exact hd.apart b x _ d z p ad hb hv e1 e2 e3 e4 rfl)
 have sameν:∀ d z j,d ≠ b -> m.at d = some z -> ν d j -> Same w w' j:=fun d z j hn e1 e2 =>
  hsame _ (hd.own d z j e1 e2).2.2.1 (fun hw=>by
   rcases hW _ hw with ⟨ad',ha,rfl⟩ | hv
   · exact hd.apart d z _ b x q ad' e1 e2 hb hz hq ha rfl
   · exact hn (hd.inj d b z x j e1 hb e2 hv))
 have Sown:∀ j,S j -> ¬ F j /\ ¬ B j /\ j < w.heap.size /\ (w0.heap.size <= j ∨ Ob j):=fun j hj=>by
  rcases hS j hj with hv | hf
  · exact hd.own b x j hb hv
  · exact ⟨hf.fz,hf.bz,hf.lt,hf.io⟩
 have Sapart:∀ j d z p ad,S j -> m.at d = some z -> z.isFz = false -> μ d = some (some p) -> p.a = some ad -> ad.block ≠ j:=fun j d z p ad hj e1 e2 e3 e4=>by
  rcases hS j hj with hv | hf
  · exact hd.apart b x j d z p ad hb hv e1 e2 e3 e4
  · exact hf.own d z p ad e1 e2 e3 e4
 have Sν:∀ j d z,S j -> d ≠ b -> m.at d = some z -> ¬ ν d j:=fun j d z hj hn e1 hv'=>by
  rcases hS j hj with hv | hf
  · exact hn (hd.inj d b z x j e1 hb hv' hv)
  · exact hf.nest d z e1 hv'
 refine ⟨⟨hext,fun d u hu=>?_,fun d u p ad hu hf hp ha=>?_,fun d d' u u' p p' ad ad' hu hu' hf hf' hp hp' ha ha' he=>?_,fun c hc=>?_,h.bz,⟨fun g cs hg=>tr.R (h.glob.1 g cs hg),h.glob.2⟩,fun d j=>(d = b /\ S j) ∨ (d ≠ b /\ ν d j),⟨fun d u p hu hp=>?_,fun d u j hu hj=>?_,fun d u j d' u' p ad hu hj hu' hf hp ha=>?_,fun d d' u u' j hu hu' hj hj'=>?_⟩⟩,tr⟩
 · rcases Zgi hu with ⟨rfl,rfl⟩ | ⟨n,hu⟩
   · exact ⟨q,hq,hbox⟩
   · obtain ⟨p,p1,p2⟩:=h.box d u hu
     exact ⟨p,p1,p2.mono tr (fun ad hf ha=>sameOwn d u p ad n hu hf p1 ha)⟩
 · obtain ⟨u',e1,e2⟩:=Zfw hb hz hu hf
   obtain ⟨k1,k2,k3,k4⟩:=h.own d u' p ad e1 e2 hp ha
   exact ⟨k1,k2,by omega,k4⟩
 · obtain ⟨u1,e1,e2⟩:=Zfw hb hz hu hf
   obtain ⟨u2,e3,e4⟩:=Zfw hb hz hu' hf'
   exact h.inj d d' u1 u2 p p' ad ad' e1 e3 e2 e4 hp hp' ha ha' he
 · have:=h.fz c hc
   exact ⟨by omega,this.2⟩
 · rcases Zgi hu with ⟨rfl,rfl⟩ | ⟨n,hu⟩
   · rw [hq] at hp; cases hp
     have e:(fun j=>(d = d /\ S j) ∨ (d ≠ d /\ ν d j)) = S:=by funext j; simp
     rw [e]; exact hnest
   · have e:(fun j=>(d = b /\ S j) ∨ (d ≠ b /\ ν d j)) = ν d:=by funext j; simp [n]
     rw [e]
     by_cases hf:u.isFz = true
     · exact Ze4 (by cases u <;> first | rfl | cases hf) _ _ _
     · exact (hd.nest d u p hu hp).frame (fun j hj=>sameν d u j n hu hj) (fun ad ha=>sameOwn d u p ad n hu (by simpa using hf) hp ha)
 · rcases hj with ⟨rfl,hj⟩ | ⟨n,hj⟩
   · obtain ⟨k1,k2,k3,k4⟩:=Sown j hj
     exact ⟨k1,k2,by omega,k4⟩
   · rcases Zgi hu with ⟨e,_⟩ | ⟨_,hu⟩
     · exact absurd e n
     · obtain ⟨k1,k2,k3,k4⟩:=hd.own d u j hu hj
       exact ⟨k1,k2,by omega,k4⟩
 · obtain ⟨u2,e3,e4⟩:=Zfw hb hz hu' hf
   rcases hj with ⟨rfl,hj⟩ | ⟨n,hj⟩
   · exact Sapart j d' u2 p ad hj e3 e4 hp ha
   · rcases Zgi hu with ⟨e,_⟩ | ⟨_,hu⟩
     · exact absurd e n
     · exact hd.apart d u j d' u2 p ad hu hj e3 e4 hp ha
 · have old:∀ d u,Hp.at ((b,some x') :: m) d = some u -> d ≠ b -> m.at d = some u:=fun d u hu n=>by
     rcases Zgi hu with ⟨e,_⟩ | ⟨_,hu⟩
     · exact absurd e n
     · exact hu
   rcases hj with ⟨e1,hj⟩ | ⟨n1,hj⟩ <;> rcases hj' with ⟨f1,hj'⟩ | ⟨n2,hj'⟩
   · rw [e1,f1]
   · exact absurd hj' (Sν j d' u' hj n2 (old d' u' hu' n2))
   · exact absurd hj (Sν j d u hj' n1 (old d u hu n1))
   · exact hd.inj d d' u u' j (old d u hu n1) (old d' u' hu' n2) hj hj'
theorem getMr_at {k:Nat} {κ τ:Ty} (K:KeyR P k κ):∀ {l:List (D κ × D τ)} {j:Nat} {x:D κ × D τ} (z:D τ),(l.map (·.1)).Nodup -> l[j]? = some x -> getMr l x.1 z = x.2
 | [],j,x,z,_,h=>by simp at h
 | y :: r,j,x,z,hn,h=>by
   simp only [List.map_cons,List.nodup_cons] at hn
   simp only [getMr]
   cases j with
   | zero =>
     simp at h; subst h
     rw [if_pos ((K.eq _ _).2 rfl)]
   | succ j =>
     simp at h
     rw [if_neg (fun e=>hn.1 (by rw [(K.eq _ _).1 e]; exact List.mem_map.2 ⟨x,List.mem_of_getElem? h,rfl⟩))]
     exact getMr_at K z hn.2 h
theorem getMr_none {k:Nat} {κ τ:Ty} (K:KeyR P k κ):∀ {l:List (D κ × D τ)} {y:D κ} (z:D τ),(∀ x ∈ l,x.1 ≠ y) -> getMr l y z = z
 | [],y,z,_=>rfl
 | x :: r,y,z,h=>by
   simp only [getMr]
   rw [if_neg (fun e=>h x (by simp) ((K.eq _ _).1 e))]
   exact getMr_none K z (fun x hx=>h x (by simp [hx]))
theorem putMr_at {k:Nat} {κ τ:Ty} (K:KeyR P k κ):∀ {l:List (D κ × D τ)} {j:Nat} {x:D κ × D τ} (z:D τ),(l.map (·.1)).Nodup -> l[j]? = some x -> putMr l x.1 z = l.set j (x.1,z)
 | [],j,x,z,_,h=>by simp at h
 | y :: r,j,x,z,hn,h=>by
   simp only [List.map_cons,List.nodup_cons] at hn
   simp only [putMr]
   cases j with
   | zero =>
     simp at h; subst h
     rw [if_pos ((K.eq _ _).2 rfl)]; rfl
   | succ j =>
     simp at h
     rw [if_neg (fun e=>hn.1 (by rw [(K.eq _ _).1 e]; exact List.mem_map.2 ⟨x,List.mem_of_getElem? h,rfl⟩))]
     rw [putMr_at K z hn.2 h]; rfl
theorem putMr_none {k:Nat} {κ τ:Ty} (K:KeyR P k κ):∀ {l:List (D κ × D τ)} {y:D κ} (z:D τ),(∀ x ∈ l,x.1 ≠ y) -> putMr l y z = l ++ [(y,z)]
 | [],y,z,_=>rfl
 | x :: r,y,z,h=>by
   simp only [putMr]
   rw [if_neg (fun e=>h x (by simp) ((K.eq _ _).1 e)),putMr_none K z (fun x hx=>h x (by simp [hx]))]; rfl
theorem keys_nodup {k:Nat} {κ τ:Ty} (K:KeyR P k κ) {l:List (D κ × D τ)} {es:List MapEntry} (hk:es.map (·.key) = l.map (fun x=>encV κ x.1)) (hn:(es.map (·.key)).Nodup):(l.map (·.1)).Nodup:=by
 rw [hk] at hn
 have e:l.map (fun x=>encV κ x.1) = (l.map (·.1)).map (encV κ):=by rw [List.map_map]; rfl
 rw [e] at hn
 exact (List.pairwise_map.1 hn).imp (fun h e=>h (congrArg _ e))
theorem keys_at {κ τ:Ty} {l:List (D κ × D τ)} {es:List MapEntry} (hk:es.map (·.key) = l.map (fun x=>encV κ x.1)) {j:Nat} {e:MapEntry} (he:es[j]? = some e):∃ x,l[j]? = some x /\ e.key = encV κ x.1:=by
 have:=congrArg (fun l=>l[j]?) hk
 simp only [List.getElem?_map,he,Option.map_some] at this
 cases hx:l[j]? with
 | none=>rw [hx] at this; cases this
 | some x=>rw [hx] at this; exact ⟨x,rfl,by simpa using this⟩
theorem find_ok {k:Nat} {κ τ:Ty} (K:KeyR P k κ) (w:World) {l:List (D κ × D τ)} {es:List MapEntry} (hk:es.map (·.key) = l.map (fun x=>encV κ x.1)) (y:D κ) :
  ((Instr.findKey k (encV κ y) es).run P w = .ok none w /\ ∀ x ∈ l,x.1 ≠ y) ∨ ∃ j e x,(Instr.findKey k (encV κ y) es).run P w = .ok (some (j,e.val)) w /\ es[j]? = some e /\ l[j]? = some x /\ x.1 = y:=by
 rcases K.find w y es (fun e he=>by
  obtain ⟨j,hj⟩:=List.getElem?_of_mem he
  obtain ⟨x,_,h⟩:=keys_at hk hj
  exact ⟨_,h⟩) with ⟨h1,h2⟩ | ⟨j,e,h1,h2,h3⟩
 · refine .inl ⟨h1,fun x hx hxy=>?_⟩
   have:encV κ x.1 ∈ es.map (·.key):=by rw [hk]; exact List.mem_map.2 ⟨x,hx,rfl⟩
   obtain ⟨e,he,hek⟩:=List.mem_map.1 this
   exact h2 e he (by rw [hek,hxy])
 · obtain ⟨x,hx,hxe⟩:=keys_at hk h2
   exact .inr ⟨j,e,x,h1,h2,hx,K.inj _ _ (by rw [← hxe,h3])⟩
theorem run_lookup {t k e:Nat} {κ τ:Ty} (K:KeyR P k κ) (ht:P.underlying t = some (.map k e)) {r:Nat} {es:Array MapEntry} {clock:Nat} (hb:w.heap[r]? = some (.map es clock)) {l:List (D κ × D τ)} (hk:es.toList.map (·.key) = l.map (fun x=>encV κ x.1)) (y:D κ)
  {z:Value} (hz:(zeroValue e).run P w = .ok z w) :
  ((Instr.lookup t (.map (some r)) (encV κ y) false).run P w = .ok z w /\ ∀ x ∈ l,x.1 ≠ y) ∨ ∃ (j:Nat) (en:MapEntry) (x:D κ × D τ),(Instr.lookup t (.map (some r)) (encV κ y) false).run P w = .ok en.val w /\ es.toList[j]? = some en /\ l[j]? = some x /\ x.1 = y:=by
 rcases find_ok K w hk y with ⟨h1,h2⟩ | ⟨j,en,x,h1,h2,h3,h4⟩
 · exact .inl ⟨by simp [Instr.lookup,run_underlying ht,MapKept.run_getObj_map hb,K.check,h1,hz,Result.andThen],h2⟩
 · exact .inr ⟨j,en,x,by simp [Instr.lookup,run_underlying ht,MapKept.run_getObj_map hb,K.check,h1,Result.andThen],h2,h3,h4⟩
theorem MapOk.push {κ τ:Ty} {b:Nat} {es:Array MapEntry} {clock:Nat} (h:MapOk w κ τ b es clock) {w':World} {key val:Value} (hk:key ∉ es.toList.map (·.key)) (hw:w'.heap[b]? = some (.map (es.push ⟨key,val,clock⟩) (clock + 1))) :
  MapOk w' κ τ b (es.push ⟨key,val,clock⟩) (clock + 1):=by
 refine ⟨hw,fun e he=>?_,?_,?_⟩
 · simp only [Array.toList_push,List.mem_append,List.mem_singleton] at he
   rcases he with he | rfl
   · exact Nat.lt_succ_of_lt (h.born e he)
   · exact Nat.lt_succ_self _
 · simp only [Array.toList_push,List.map_append,List.map_cons,List.map_nil]
   refine List.nodup_append.2 ⟨h.nodup,by simp,fun x hx y hy=>?_⟩
   simp only [List.mem_singleton] at hy
   subst hy
   obtain ⟨e,he,rfl⟩:=List.mem_map.1 hx
   exact Nat.ne_of_lt (h.born e he)
 · simp only [Array.toList_push,List.map_append,List.map_cons,List.map_nil]
   refine List.nodup_append.2 ⟨h.keys,by simp,fun x hx y hy=>?_⟩
   simp only [List.mem_singleton] at hy
   subst hy
   exact fun e=>hk (e ▸ hx)
theorem toList_modify {α:Type} (es:Array α) (j:Nat) (f:α -> α) {e:α} (h:es.toList[j]? = some e):(es.modify j f).toList = es.toList.set j (f e):=by
 apply List.ext_getElem?
 intro i
 rw [Array.getElem?_toList,Array.getElem?_modify]
 by_cases hij:j = i
 · subst hij
   rw [List.getElem?_set_self (List.getElem?_eq_some_iff.1 h).1]
   simp only [if_true]
   rw [Array.getElem?_toList] at h
   rw [h]; rfl
 · rw [List.getElem?_set_ne hij,if_neg hij,Array.getElem?_toList]
theorem MapOk.modify {κ τ:Ty} {b:Nat} {es:Array MapEntry} {clock:Nat} (h:MapOk w κ τ b es clock) {w':World} {key val:Value} {j:Nat} {e:MapEntry} (he:es.toList[j]? = some e) (hk:e.key = key) (hw:w'.heap[b]? = some (.map (es.modify j fun e=>{ e with key,val:=val }) clock)) :
  MapOk w' κ τ b (es.modify j fun e=>{ e with key,val:=val }) clock:=by
 have hl:=toList_modify es j (fun e=>{ e with key:=key,val:=val }) he
 have hj:=(List.getElem?_eq_some_iff.1 he).1
 have hmem:e ∈ es.toList:=List.mem_of_getElem? he
 have hset:∀ {β:Type} (g:MapEntry -> β),g { e with key:=key,val:=val } = g e -> (es.toList.set j { e with key:=key,val:=val }).map g = es.toList.map g:=fun g hg=>by
  rw [List.map_set,hg]
  apply set_same
  rw [List.getElem?_map,he]; rfl
 refine ⟨hw,fun x hx=>?_,?_,?_⟩
 · rw [hl] at hx
   rcases List.mem_or_eq_of_mem_set hx with hx | rfl
   · exact h.born x hx
   · exact h.born e hmem
 · rw [hl,hset _ rfl]; exact h.nodup
 · rw [hl,hset _ hk.symm]; exact h.keys
theorem DR.iff_sub {τ:Ty} {S S':Nat -> Prop} {x:D τ} {c:List Value} (h:DR w τ S x c) (hS:∀ k,S k -> S' k):DR w τ S' x c:=h.sub hS
theorem Zhp.push {S Sy:Nat -> Prop} {κ τ:Ty} {l:List (D κ × D τ)} {es:List MapEntry} {p:D κ -> Prop} (h:Zhp w S τ l es p) (hl:es.length = l.length) {y:D κ} {z:D τ} {e:MapEntry} (hz:DR w τ Sy z [e.val]) (hd:∀ j,S j -> ¬ Sy j) (hp:∀ x ∈ l,p x.1) :
  Zhp w (fun j=>S j ∨ Sy j) τ (l ++ [(y,z)]) (es ++ [e]) (fun _=>True):=by
 obtain ⟨T,t1,t2,t3⟩:=h
 refine ⟨fun i j=>(i < l.length /\ T i j) ∨ (i = l.length /\ Sy j),fun i j hj=>hj.imp (fun h=>t1 i j h.2) (fun h=>h.2),fun i i' j hj hj'=>?_,fun i x e' _ hx he=>?_⟩
 · rcases hj with ⟨e1,hj⟩ | ⟨e1,hj⟩ <;> rcases hj' with ⟨e2,hj'⟩ | ⟨e2,hj'⟩
   · exact t2 _ _ j hj hj'
   · exact absurd hj' (hd j (t1 i j hj))
   · exact absurd hj (hd j (t1 i' j hj'))
   · omega
 · by_cases hi:i < l.length
   · rw [List.getElem?_append_left hi] at hx
     rw [List.getElem?_append_left (by omega)] at he
     exact (t3 i x e' (hp x (List.mem_of_getElem? hx)) hx he).sub (fun j hj=>.inl ⟨hi,hj⟩)
   · rw [List.getElem?_append_right (by omega)] at hx
     rw [List.getElem?_append_right (by omega)] at he
     have hi0:i - l.length = 0:=by have:=(List.getElem?_eq_some_iff.1 hx).1; simp at this; omega
     rw [hi0] at hx
     rw [show i - es.length = 0 by omega] at he
     simp at hx he
     subst hx; subst he
     exact hz.sub (fun j hj=>.inr ⟨by omega,hj⟩)
theorem Zhp.put {S Sy:Nat -> Prop} {κ τ:Ty} {l:List (D κ × D τ)} {es:List MapEntry} {p:D κ -> Prop} (h:Zhp w S τ l es p) {n:Nat} {y:D κ} {z:D τ} {e:MapEntry} (hz:DR w τ Sy z [e.val]) (hd:∀ j,S j -> ¬ Sy j) (hp:∀ i x,i ≠ n -> l[i]? = some x -> p x.1) :
  Zhp w (fun j=>S j ∨ Sy j) τ (l.set n (y,z)) (es.set n e) (fun _=>True):=by
 obtain ⟨T,t1,t2,t3⟩:=h
 refine ⟨fun i j=>(i ≠ n /\ T i j) ∨ (i = n /\ Sy j),fun i j hj=>hj.imp (fun h=>t1 i j h.2) (fun h=>h.2),fun i i' j hj hj'=>?_,fun i x e' _ hx he=>?_⟩
 · rcases hj with ⟨e1,hj⟩ | ⟨e1,hj⟩ <;> rcases hj' with ⟨e2,hj'⟩ | ⟨e2,hj'⟩
   · exact t2 _ _ j hj hj'
   · exact absurd hj' (hd j (t1 i j hj))
   · exact absurd hj (hd j (t1 i' j hj'))
   · omega
 · by_cases hi:i = n
   · subst hi
     rw [List.getElem?_set_self (by have:=(List.getElem?_eq_some_iff.1 hx).1; simpa using this)] at hx
     rw [List.getElem?_set_self (by have:=(List.getElem?_eq_some_iff.1 he).1; simpa using this)] at he
     cases hx; cases he
     exact hz.sub (fun j hj=>.inr ⟨rfl,hj⟩)
   · rw [List.getElem?_set_ne (Ne.symm hi)] at hx he
     exact (t3 i x e' (hp i x hi hx) hx he).sub (fun j hj=>.inl ⟨hi,hj⟩)
theorem Zg9 (w:World) (r:Nat) (o:Obj) {c:Nat} (h:c ≠ r):Same w (setBlock w r o) c:=by
 show (w.heap.setIfInBounds r o)[c]? = w.heap[c]?
 simp [Ne.symm h]
theorem Zio (w:World) (r:Nat) (o:Obj):(setBlock w r o).heap.size = w.heap.size:=by simp [setBlock]
theorem Ext.setBlock {S:Prop} (h:Ext S Ob w0 w) {r:Nat} (hr:w0.heap.size <= r ∨ Ob r) (o:Obj):Ext S Ob w0 (setBlock w r o) :=
 ⟨h.os,h.tape,h.output,by rw [Zio]; exact h.size,fun k hk hio=>by
  rw [← h.block k hk hio]
  exact Zg9 w r o (fun e=>by subst e; rcases hr with hr | hr
                             · omega
                             · exact hio hr),h.drawn⟩
end
end Go.E
namespace Go.E
open Go Go.RowKit Go.ChangeMaps
section
variable {P:Program} {E:Env} {G:List (Nat × List V)} {w0:World} {Ob A B F:Nat -> Prop} {μ:Mu} {m:Hp} {w:World} {base:Nat} {s:St} {a:Act} {v:V} {m':Hp} {ν:Nat -> Nat -> Prop}
theorem wM_some {R:Type} {t:Nat} {K:TL -> TL -> Option R} {r:R} (h:wM E t K = some r):∃ l k e lk le,look E.L t = some l /\ l.k = .mp k e /\ look E.L k = some lk /\ look E.L e = some le /\ keyOk E.L lk = true /\ le.ty.agg = false /\ K lk le = some r:=by
 unfold wM at h
 obtain ⟨l,hl,h⟩:=Zdy h
 split at h
 · rename_i k e hk
   obtain ⟨lk,hlk,h⟩:=Zdy h
   obtain ⟨le,hle,h⟩:=Zdy h
   split at h
   · rename_i hc
     exact ⟨l,k,e,lk,le,hl,hk,hlk,hle,hc.1,hc.2.1,h⟩
   · cases h
 · cases h
theorem key_val (h:Pre P E w0 Ob A B F μ s a w) {k:Nat} {κ:Ty} (K:KeyR P k κ) {x:Operand} {y:D κ} (hy:Zgh s.m κ (opnd E s x) = some y):a.eval x = encV κ y:=by
 have:=typed_ok h.mem (X:=fun _=>True) (fun _ _=>trivial) (h.ev x) (In.all h.mem _) hy
 unfold encV
 cases hκ:κ.agg with
 | true =>
   obtain ⟨cs,e1,e2⟩:=this.1 hκ
   have:=K.enc _ _ _ _ e2
   simp only
   rw [e1,← this]
 | false =>
   have:=K.enc _ _ _ _ (this.2 hκ)
   simp only
   rw [← this]; rfl
theorem one_cell {z c:Value} (h:z.cells = #[c]) (ha:∀ cs,z ≠ .agg cs):z = c:=by
 cases z <;> first | (simp [Value.cells] at h; exact h) | exact absurd rfl (ha _)
theorem zero_one {e:Nat} {le:TL} (lay:Lay P E.L e le) (ha:le.ty.agg = false):∃ zv,(∀ w,(zeroValue e).run P w = .ok zv w) /\ le.zero = [scal zv]:=by
 obtain ⟨i,i1,i2,_,z,i3,i4⟩:=lay.size
 have hu:=lay.notUnit
 have hw:=width_one ha hu
 have hl:z.cells.toList.length = 1:=by
  have:=congrArg List.length i4
  rw [List.length_map,lay.zlen,hw] at this; exact this
 obtain ⟨c,hc⟩:=List.length_eq_one_iff.1 hl
 have hz:z = c:=one_cell (by apply Array.toList_inj.1; rw [hc]) (lay.zagg i z i1 i3 ha)
 refine ⟨z,fun w=>by simp [zeroValue,typeInfo,i1,i3],?_⟩
 rw [← i4,hc,hz]; rfl
theorem zero_scal {e:Nat} {le:TL} (lay:Lay P E.L e le) (hs:le.ty.scal = true) {z:D le.ty} (hz:asm [] le.ty le.zero = some (z,[])):∃ zv,(∀ w,(zeroValue e).run P w = .ok zv w) /\ ∀ F w,RC F w le.ty z [zv]:=by
 obtain ⟨s1,s2⟩:=scal_sl hs
 obtain ⟨zv,h1,h2⟩:=zero_one lay s2
 refine ⟨zv,h1,fun F w=>?_⟩
 rw [h2] at hz
 obtain ⟨v,e1,e2⟩:=Zeg s2 lay.notUnit hz
 simp only [List.cons.injEq,and_true] at e1
 rw [← e1] at e2
 have hm:Mem [] w (fun _=>True) (fun _=>True) (fun _=>False) (fun _=>False) (fun _=>none) [] w:=by
  refine ⟨⟨rfl,rfl,rfl,Nat.le_refl _,fun _ _ _=>rfl,fun _=>Nat.le_refl _⟩,fun b x h=>(nomatch h),fun b x q ad h=>(nomatch h),fun b b' x x' q q' ad ad' h=>(nomatch h),fun b h=>h.elim,fun b h=>h.elim,⟨fun g cs h=>(nomatch h),fun g cs h=>(nomatch h)⟩,fun _ _=>False,⟨fun b x q h=>(nomatch h),fun b x c h=>(nomatch h),fun b x c b' x' q ad h=>(nomatch h),fun b b' x x' c h=>(nomatch h)⟩⟩
 have k:=Zf7 (X:=fun _=>False) hm (fun _ h=>h) (scal_ok (fun _=>False) (fun _=>False) w (fun _=>none) zv) ⟨fun b hb τ r q ad h=>(nomatch h),fun b hb τ r q ad h=>(nomatch h)⟩ s2 e2
 exact RC_noSl s1 k
theorem zero_nil {e:Nat} {le:TL} (lay:Lay P E.L e le) (ha:le.ty.agg = false) (hz:le.zero = [.nil]):∀ w,(zeroValue e).run P w = .ok (.slice none 0 0) w:=by
 obtain ⟨zv,h1,h2⟩:=zero_one lay ha
 rw [hz] at h2
 simp only [List.cons.injEq,and_true] at h2
 have:zv = .slice none 0 0:=by
  unfold scal at h2
  split at h2 <;> first | rfl | cases h2
 rw [← this]; exact h1
theorem good_makeMap (h:Pre P E w0 Ob A B F μ s a w) (hb:Zgz μ base) {o:Oper} {t:Nat} {x:Option Operand} (ho:o.op = .makeMap t x) (hf:opF E o.op base s = some (v,m')):Good P E.G w0 Ob A B F μ base o a w v m':=by
 rw [ho] at hf; simp only [opF,opK] at hf
 split at hf
 rotate_left
 · cases hf
 obtain ⟨l,k,e,lk,le,hl,hk,hlk,hle,hko,hag,hf⟩:=wM_some hf
 obtain ⟨rfl,rfl⟩:=Zbp hf
 obtain ⟨ν,hd⟩:=h.mem.deep
 let q1:MB:=⟨some ⟨w.heap.size,0,none⟩,0,0,0⟩
 have hsame:∀ c,c < w.heap.size -> Same w (w.alloc (.map #[] 0)) c:=fun c hc=>Zfk w _ hc
 obtain ⟨mem,tr⟩:=h.mem.addX hd hb.at0 (h.mem.ext.alloc (.map #[] 0)) (by simp) (W:=fun _=>False) (Sx:=fun _=>False) (fun c hc _=>hsame c hc) (fun _ h=>h.elim) (x0:=.mp lk.ty le.ty []) rfl (q1:=q1) ⟨_,rfl,rfl⟩
  (fun ad ha=>by cases ha; exact .inr ⟨Nat.le_refl _,by simp⟩) (fun _ h=>h.elim)
  (fun ad ha=>by
   cases ha
   refine ⟨#[],0,⟨(MapKept.heap_alloc w _).1,by simp,by simp,by simp⟩,by simp,fun _ _=>False,fun _ _ h=>h.elim,fun _ _ _ h=>h.elim,fun i x e _ hx=>by simp at hx⟩)
 refine Good.value (cv:=.map (some w.heap.size)) ?_ ⟨mem,tr,Zg2 μ base _⟩ ?_
 · unfold execOp; rw [ho]
   simp only [Option.map_none,Sem.run_bind,run_makeMap,Result.andThen_ok,Sem.run_pure]
 · simp only [R]
   exact ⟨some q1,by simp [upd],_,rfl,fun q hq=>by cases hq; exact ⟨_,rfl,rfl⟩⟩
theorem castM_some {κ τ κ' τ':Ty} {l:List (D κ × D τ)} {l':List (D κ' × D τ')} (h:castM κ τ κ' τ' l = some l'):κ = κ' /\ τ = τ' /\ HEq l l':=by
 unfold castM at h
 obtain ⟨e,rfl⟩:=Zcb h
 cases e
 exact ⟨rfl,rfl,HEq.rfl⟩
theorem lookup_sl (h:Mem G w0 Ob A B F μ m w) (hb0:μ base = none) {t k e b:Nat} {κ e':Ty} (K:KeyR P k κ) (hun:P.underlying t = some (.map k e)) {l:List (D κ × D (.sl e'))} (hb:m.at b = some (.mp κ (.sl e') l)) {q:MB} (hq:μ b = some (some q)) {ad:Addr} (ha:q.a = some ad) (y:D κ)
  (hz:(zeroValue e).run P w = .ok (.slice none 0 0) w):∃ q1 cv,(Instr.lookup t (.map (some ad.block)) (encV κ y) false).run P w = .ok cv w /\
   Mem G w0 Ob A B F (upd μ base (some q1)) ((base,some (Zif e' (getMr l y []))) :: (b,some (.mpx κ (.sl e') l y)) :: m) w /\ Tr B F F μ (upd μ base (some q1)) w w /\ R F B w (upd μ base (some q1)) (.arr base) cv:=by
 obtain ⟨ν,hd⟩:=h.deep
 obtain ⟨es,clock,hm,hks,T,t1,t2,t3⟩:=hd.nest b _ q hb hq ad ha
 have hnd:=keys_nodup K hks hm.keys
 obtain ⟨Sv,cv,s1,s2,s3,s4⟩:∃ (Sv:Nat -> Prop) (cv:Value),(∀ j,Sv j -> ν b j) /\ DR w (.sl e') Sv (getMr l y ([]:List (D e'))) [cv] /\ (∀ (i:Nat) z j,l[i]? = some z -> z.1 ≠ y -> T i j -> ¬ Sv j) /\ (Instr.lookup t (.map (some ad.block)) (encV κ y) false).run P w = .ok cv w:=by
  rcases run_lookup K hun hm.heap hks y hz with ⟨h1,h2⟩ | ⟨j,en,z,h1,h2,h3,h4⟩
  · refine ⟨fun _=>False,_,fun _ h=>h.elim,?_,fun _ _ _ _ _ _ h=>h,h1⟩
    rw [getMr_none K _ h2]
    exact DR_nil
  · refine ⟨T j,_,t1 j,?_,fun i z' j' hi hne hT hT'=>?_,h1⟩
    · rw [← h4,getMr_at K _ hnd h3]
      exact t3 j z en trivial h3 h2
    · have:=t2 i j j' hT hT'
      subst this
      rw [h3] at hi; cases hi
      exact hne h4
 obtain ⟨q1,o1,o2,o3,o4,o5,o6⟩:=own_box (F:=F) (B:=B) s2
 have hsw:=hd.swap (x':=.mpx κ (.sl e') l y) hb rfl hq (S:=fun j=>ν b j /\ ¬ Sv j) (fun j hj=>hj.1) (fun ad' ha'=>by
  rw [ha] at ha'; cases ha'
  exact ⟨es,clock,hm,hks,fun i j=>∃ x,l[i]? = some x /\ x.1 ≠ y /\ T i j,fun i j ⟨x,hx,hne,hj⟩=>⟨t1 i j hj,s3 i x j hx hne hj⟩,fun i i' j ⟨_,_,_,hj⟩ ⟨_,_,_,hj'⟩=>t2 i i' j hj hj',fun i x en hne hx he=>(t3 i x en trivial hx he).sub (fun j hj=>⟨x,hx,hne,hj⟩)⟩)
 have hbx:=(h.box b _ hb)
 have mem1:=h.swap (x':=.mpx κ (.sl e') l y) hb rfl hq (by obtain ⟨q',e1,e2⟩:=hbx; rw [hq] at e1; cases e1; exact e2) ⟨_,hsw⟩
 have free:∀ j,Sv j -> FreeB w0 Ob B F μ ((b,some (.mpx κ (.sl e') l y)) :: m) w (fun d j=>(d = b /\ ν b j /\ ¬ Sv j) ∨ (d ≠ b /\ ν d j)) j:=fun j hj=>free_left hd hb rfl (s1 j hj) (fun h=>h.2 hj)
 obtain ⟨mem,tr⟩:=mem1.addX hsw hb0 h.ext (Nat.le_refl _) (W:=fun _=>False) (Sx:=fun j=>Sv j /\ ∀ ad',q1.a = some ad' -> j ≠ ad'.block) (fun _ _ _=>rfl) (fun _ h=>h.elim) ownBx_fz (q1:=q1) (o4 _) (fun ad' ha'=>.inl (free _ (o5 ad' ha')))
  (fun j hj=>⟨.inl (free j hj.1),hj.2⟩) (o6 _ (fun j ad' ha' hj hne=>⟨hj,fun ad2 ha2=>by rw [ha'] at ha2; cases ha2; exact hne⟩))
 refine ⟨q1,cv,s4,mem,tr,?_⟩
 simp only [R]
 exact ⟨some q1,by simp [upd],_,_,_,o1,fun q' e=>by cases e; exact ⟨rfl,rfl,rfl⟩⟩
theorem lookup_scal {t k e:Nat} {κ τ:Ty} (K:KeyR P k κ) (hun:P.underlying t = some (.map k e)) {l:List (D κ × D τ)} {q:MB} {S:Nat -> Prop} {ad:Addr} (ha:q.a = some ad) (hn:Nest w q S (.mp κ τ l)) (y:D κ) (hs:τ.scal = true) {z:D τ} {zv:Value} (hz:(zeroValue e).run P w = .ok zv w) (hzr:RC F w τ z [zv]) :
  ∃ cv,(Instr.lookup t (.map (some ad.block)) (encV κ y) false).run P w = .ok cv w /\ RC F w τ (getMr l y z) [cv]:=by
 obtain ⟨es,clock,hm,hks,T,t1,t2,t3⟩:=hn ad ha
 have hnd:=keys_nodup K hks hm.keys
 rcases run_lookup K hun hm.heap hks y hz with ⟨h1,h2⟩ | ⟨j,en,x,h1,h2,h3,h4⟩
 · exact ⟨_,h1,by rw [getMr_none K _ h2]; exact hzr⟩
 · exact ⟨_,h1,by rw [← h4,getMr_at K _ hnd h3]; exact (t3 j x en trivial h3 h2).RC_any (scal_sl hs).1⟩
theorem map_ad (h:Pre P E w0 Ob A B F μ s a w) {x:Operand} {b:Nat} (hx:opnd E s x = .map b) {q:MB} (hq:μ b = some (some q)):∃ ad,q.a = some ad /\ a.eval x = .map (some ad.block):=by
 have:=h.ev x
 rw [hx] at this
 simp only [R] at this
 obtain ⟨o',e1,n,e2,e3⟩:=this
 rw [hq] at e1; cases e1
 obtain ⟨ad',e4,rfl⟩:=e3 q rfl
 exact ⟨ad',e4,e2⟩
theorem good_lookup (h:Pre P E w0 Ob A B F μ s a w) (hb0:Zgz μ base) {o:Oper} {t:Nat} {x i:Operand} {ok:Bool} (ho:o.op = .lookup t x i ok) (hf:opF E o.op base s = some (v,m')):Good P E.G w0 Ob A B F μ base o a w v m':=by
 rw [ho] at hf; simp only [opF,opK] at hf
 split at hf
 rotate_left
 · cases hf
 obtain ⟨l,k,e,lk,le,hl,hk,hlk,hle,hko,hag,hf⟩:=wM_some hf
 have hun:P.underlying t = some (.map k e):=by have:=(h.env.lay t l hl).kind; rw [hk] at this; exact this
 have K:=keyR_ok h.env hlk hko
 have lay:=h.env.lay e le hle
 unfold lookupK at hf
 split at hf
 rotate_left
 · cases hf
 rename_i b hx
 split at hf
 rotate_left
 · cases hf
 rename_i κ τ l0 hbx
 split at hf
 rotate_left
 · cases hf
 rename_i l1 y hl1 hy
 obtain ⟨rfl,rfl,hll⟩:=castM_some hl1
 have hll:=eq_of_heq hll
 subst hll
 obtain ⟨q,hq,ad,ha,hsp⟩:=h.mem.box b _ hbx
 obtain ⟨ad',ha',hxv⟩:=map_ad h hx hq
 rw [ha] at ha'; cases ha'
 have hyv:=key_val h K hy
 have exec:∀ {cv:Value},(Instr.lookup t (.map (some ad.block)) (encV lk.ty y) false).run P w = .ok cv w -> (execOp a.eval o).run P w = .ok (.value cv) w:=fun hr=>by
  unfold execOp; rw [ho]
  simp [hxv,hyv,hr]
 obtain ⟨ν,hd⟩:=h.mem.deep
 have hn:=hd.nest b _ q hbx hq
 obtain ⟨lkk,lty,lz⟩:=le
 simp only at *
 split at hf
 · rename_i e' l2
   split at hf
   rotate_left
   · cases hf
   obtain ⟨rfl,rfl⟩:=Zbp hf
   obtain ⟨q1,cv,r1,r2,r3,r4⟩:=lookup_sl h.mem hb0.at0 K hun hbx hq ha y (zero_nil lay hag rfl w)
   exact Good.value (exec r1) ⟨r2,r3,Zg2 μ base _⟩ r4
 · split at hf
   rotate_left
   · cases hf
   rename_i hs
   obtain ⟨z,hz,hf⟩:=Zgj hf
   obtain ⟨rfl,rfl⟩:=Zbp hf
   obtain ⟨zv,z1,z2⟩:=zero_scal lay hs hz
   obtain ⟨cv,r1,r2⟩:=lookup_scal (F:=F) K hun ha hn y hs (z1 w) (z2 F w)
   refine Good.same h (exec r1) ?_
   simp only [R,(scal_sl hs).2]
   exact r2
theorem run_update {t k e:Nat} {κ τ:Ty} (K:KeyR P k κ) (ht:P.underlying t = some (.map k e)) {r:Nat} {es:Array MapEntry} {clock:Nat} (hb:w.heap[r]? = some (.map es clock)) {l:List (D κ × D τ)} (hk:es.toList.map (·.key) = l.map (fun x=>encV κ x.1)) (y:D κ) (val:Value) :
  ((∀ x ∈ l,x.1 ≠ y) /\ (Instr.mapUpdate t (.map (some r)) (encV κ y) val).run P w = .ok () (setBlock w r (.map (es.push ⟨encV κ y,val,clock⟩) (clock + 1)))) ∨
  ∃ (j:Nat) (en:MapEntry) (x:D κ × D τ),es.toList[j]? = some en /\ l[j]? = some x /\ x.1 = y /\ (Instr.mapUpdate t (.map (some r)) (encV κ y) val).run P w = .ok () (setBlock w r (.map (es.modify j fun e=>{ e with key:=encV κ y,val:=val }) clock)):=by
 rcases find_ok K w hk y with ⟨h1,h2⟩ | ⟨j,en,x,h1,h2,h3,h4⟩
 · refine .inl ⟨h2,?_⟩
   simp [Instr.mapUpdate,run_underlying ht,MapKept.run_getObj_map hb,K.check,h1,MapKept.run_setObj_map _ hb,Result.andThen,setBlock]
 · refine .inr ⟨j,en,x,h2,h3,h4,?_⟩
   obtain ⟨x',g1,g2⟩:=keys_at hk h2
   rw [h3] at g1; cases g1
   have hk2:((es[j]?).map (·.key)).getD (encV κ y) = encV κ y:=by
    rw [Array.getElem?_toList] at h2
    rw [h2]; show en.key = _; rw [g2,h4]
   simp [Instr.mapUpdate,run_underlying ht,MapKept.run_getObj_map hb,K.check,h1,hk2,K.stays,MapKept.run_setObj_map _ hb,Result.andThen,setBlock]
theorem Mem.upd (h:Mem G w0 Ob A B F μ m w) (hd:DeepOk w0 Ob B F μ m w ν) {t k e b:Nat} {κ τ:Ty} (K:KeyR P k κ) (hun:P.underlying t = some (.map k e)) {x:Bx} (hb:m.at b = some x) (hz:x.isFz = false) {q:MB} (hq:μ b = some (some q)) {ad:Addr} (ha:q.a = some ad) (hsp:ad.spot = none)
  {es:Array MapEntry} {clock:Nat} (hm:MapOk w κ τ ad.block es clock) {l:List (D κ × D τ)} (hks:es.toList.map (·.key) = l.map (fun x=>encV κ x.1)) {p:D κ -> Prop} (hel:Zhp w (ν b) τ l es.toList p) {Sy:Nat -> Prop} (hSy:∀ j,Sy j -> FreeB w0 Ob B F μ m w ν j)
  (y:D κ) {z:D τ} {val:Value} (hval:DR w τ Sy z [val]) (hp:∀ x ∈ l,x.1 ≠ y -> p x.1) :
  ∃ w',(Instr.mapUpdate t (.map (some ad.block)) (encV κ y) val).run P w = .ok () w' /\ Mem G w0 Ob A B F μ ((b,some (.mp κ τ (putMr l y z))) :: m) w' /\ Tr B F F μ μ w w':=by
 have hnd:=keys_nodup K hks hm.keys
 have hlen:es.toList.length = l.length:=by have:=congrArg List.length hks; simpa using this
 have own:=h.own b x q ad hb hz hq ha
 have dis:∀ j,ν b j -> ¬ Sy j:=fun j hj hs=>(hSy j hs).nest b x hb hj
 have fin:∀ (es':Array MapEntry) (clock':Nat),(∀ w',w'.heap[ad.block]? = some (.map es' clock') -> MapOk w' κ τ ad.block es' clock') -> es'.toList.map (·.key) = (putMr l y z).map (fun x=>encV κ x.1) -> Zhp w (fun j=>ν b j ∨ Sy j) τ (putMr l y z) es'.toList (fun _=>True) ->
   Mem G w0 Ob A B F μ ((b,some (.mp κ τ (putMr l y z))) :: m) (setBlock w ad.block (.map es' clock')) /\ Tr B F F μ μ w (setBlock w ad.block (.map es' clock')):=fun es' clock' h1 h2 h3=>by
  have hS:∀ j,(ν b j ∨ Sy j) -> Same w (setBlock w ad.block (.map es' clock')) j:=fun j hj=>Zg9 w _ _ (fun e=>by
   subst e
   rcases hj with hj | hj
   · exact hd.apart b x _ b x q ad hb hj hb hz hq ha rfl
   · exact (hSy _ hj).own b x q ad hb hz hq ha rfl)
  refine h.setX hd hb hz hq (h.ext.setBlock own.2.2.2 _) (by rw [Zio]; omega) (W:=fun c=>c = ad.block) (S:=fun j=>ν b j ∨ Sy j) (fun c _ hc=>Zg9 w _ _ hc) (fun c hc=>.inl ⟨ad,ha,hc⟩) rfl ⟨ad,ha,hsp⟩ (fun j hj=>hj.imp (fun h=>h) (hSy j)) (fun ad' ha'=>?_)
  rw [ha] at ha'; cases ha'
  exact ⟨es',clock',h1 _ (heap_setBlock_same hm.heap _),h2,h3.frame hS⟩
 rcases run_update (τ:=τ) K hun hm.heap hks y val with ⟨h1,h2⟩ | ⟨j,en,x0,h1,h2,h3,h4⟩
 · have hnk:encV κ y ∉ es.toList.map (·.key):=fun hmem=>by
     rw [hks] at hmem
     obtain ⟨x1,hx1,hx2⟩:=List.mem_map.1 hmem
     exact h1 x1 hx1 (K.inj _ _ hx2)
   obtain ⟨mem,tr⟩:=fin _ _ (fun w' hw=>hm.push hnk hw) (by rw [putMr_none K _ h1]; simp [hks]) (by
    rw [putMr_none K _ h1,Array.toList_push]
    exact hel.push hlen (y:=y) hval dis (fun x hx=>hp x hx (h1 x hx)))
   exact ⟨_,h2,mem,tr⟩
 · subst h3
   obtain ⟨x1,g1,g2⟩:=keys_at hks h1
   rw [h2] at g1; cases g1
   have htl:=toList_modify es j (fun e=>{ e with key:=encV κ x0.1,val:=val }) h1
   obtain ⟨mem,tr⟩:=fin _ _ (fun w' hw=>hm.modify h1 g2 hw) (by
    rw [putMr_at K _ hnd h2,htl,List.map_set,hks,List.map_set]) (by
    rw [putMr_at K _ hnd h2,htl]
    refine hel.put (y:=x0.1) hval dis (fun i x' hi hx'=>hp x' (List.mem_of_getElem? hx') (fun e=>hi ?_))
    have hi1:i < (l.map (·.1)).length:=by have:=(List.getElem?_eq_some_iff.1 hx').1; simpa using this
    exact (List.getElem?_inj hi1 hnd).1 (by simp [hx',h2,e]))
   exact ⟨_,h4,mem,tr⟩
end
end Go.E
namespace Go.E
open Go Go.RowKit Go.ChangeMaps
section
variable {P:Program} {E:Env} {G:List (Nat × List V)} {w0:World} {Ob A B F:Nat -> Prop} {μ:Mu} {m:Hp} {w:World} {base:Nat} {s:St} {a:Act} {v:V} {m':Hp} {ν:Nat -> Nat -> Prop}
theorem rowsD_some {e:Ty} {c:Nat} {y:List (D e)} (h:rowsD m e c = some y):∃ z,m.at c = some z /\ ((z = .rows e y /\ e.hasSl = false) ∨ z = .dp e y):=by
 unfold rowsD at h
 split at h
 · rename_i σ r hc
   split at h
   · cases h
   · rename_i hs
     obtain ⟨e1,rfl⟩:=Zcb h
     cases e1
     exact ⟨_,hc,.inl ⟨rfl,by simpa using hs⟩⟩
 · rename_i σ r hc
   obtain ⟨e1,rfl⟩:=Zcb h
   cases e1
   exact ⟨_,hc,.inr rfl⟩
 · cases h
theorem good_mapUpdate (h:Pre P E w0 Ob A B F μ s a w) {o:Oper} {t:Nat} {x i y:Operand} (ho:o.op = .mapUpdate t x i y) (hf:opF E o.op base s = some (v,m')):Good P E.G w0 Ob A B F μ base o a w v m':=by
 rw [ho] at hf; simp only [opF,opK] at hf
 obtain ⟨l,k,e,lk,le,hl,hk,hlk,hle,hko,hag,hf⟩:=wM_some hf
 have hun:P.underlying t = some (.map k e):=by have:=(h.env.lay t l hl).kind; rw [hk] at this; exact this
 have K:=keyR_ok h.env hlk hko
 have exec:∀ {b:Nat} {w':World} {yy:D lk.ty},a.eval x = .map (some b) -> a.eval i = encV lk.ty yy -> (Instr.mapUpdate t (.map (some b)) (encV lk.ty yy) (a.eval y)).run P w = .ok () w' -> (execOp a.eval o).run P w = .ok .skip w':=fun h1 h2 hr=>by
  unfold execOp; rw [ho]
  simp [h1,h2,hr]
 unfold updK at hf
 split at hf
 rotate_left
 · cases hf
 rename_i b hx
 split at hf
 · rename_i c hc
   have mem1:=h.mem.unf1 c
   split at hf
   rotate_left
   · cases hf
   rename_i κ τ l0 k0 hbx
   split at hf
   rotate_left
   · cases hf
   rename_i k1 l1 yy hk1 hl1 hy
   obtain ⟨rfl,rfl,hll⟩:=castM_some hl1
   have hll:=eq_of_heq hll
   subst hll
   obtain ⟨_,hk1'⟩:=Zcb hk1
   have hk1':k1 = k0:=hk1'
   subst hk1'
   have hyv:=key_val h K hy
   obtain ⟨q,hq,ad,ha,hsp⟩:=mem1.box b _ hbx
   obtain ⟨ad',ha',hxv⟩:=map_ad h hx hq
   rw [ha] at ha'; cases ha'
   obtain ⟨ν,hd⟩:=mem1.deep
   have hn:=hd.nest b _ q hbx hq
   have hcv:=h.ev y
   rw [hc] at hcv
   obtain ⟨lkk,lty,lz⟩:=le
   simp only at *
   split at hf
   · rename_i e' l2 _
     split at hf
     rotate_left
     · cases hf
     rename_i rr hrr
     split at hf
     · cases hf
     rename_i hcb
     obtain ⟨heq,hf⟩:=Zc4 hf
     obtain ⟨rfl,rfl⟩:=Zbp hf
     have heq:yy = k1:=(K.eq _ _).1 heq
     subst heq
     obtain ⟨z,z1,z2⟩:=rowsD_some hrr
     have hdr:=own_DR mem1 hd z1 z2 hcv
     obtain ⟨es,clock,hm,hks,hel⟩:=hn ad ha
     obtain ⟨w',r1,r2,r3⟩:=(mem1.kill c).upd (hd.kill c) K hun (b:=b) (x:=.mpx lk.ty (.sl e') l2 yy) (by rw [Hp.at_cons,if_neg hcb]; exact hbx) rfl hq ha hsp hm hks hel (Sy:=SA μ ν (unf1 s.m c) [c]) (fun j hj=>free_SA mem1 hd hj) yy hdr (fun x _ hx=>hx)
     exact Good.skip (exec hxv hyv r1) ⟨r2,r3,fun _ _ h=>h⟩
   · cases hf
 · split at hf
   rotate_left
   · cases hf
   rename_i κ τ l0 hbx
   split at hf
   rotate_left
   · cases hf
   rename_i l1 yy z hl1 hy hz
   split at hf
   rotate_left
   · cases hf
   rename_i hs
   obtain ⟨rfl,rfl⟩:=Zbp hf
   obtain ⟨rfl,rfl,hll⟩:=castM_some hl1
   have hll:=eq_of_heq hll
   subst hll
   have hyv:=key_val h K hy
   obtain ⟨q,hq,ad,ha,hsp⟩:=h.mem.box b _ hbx
   obtain ⟨ad',ha',hxv⟩:=map_ad h hx hq
   rw [ha] at ha'; cases ha'
   obtain ⟨ν,hd⟩:=h.mem.deep
   obtain ⟨es,clock,hm,hks,hel⟩:=hd.nest b _ q hbx hq ad ha
   obtain ⟨s1,s2⟩:=scal_sl hs
   have hval:=(typed_ok h.mem (X:=fun _=>True) (fun _ _=>trivial) (h.ev y) (In.all h.mem _) hz).2 s2
   obtain ⟨w',r1,r2,r3⟩:=h.mem.upd hd K hun hbx rfl hq ha hsp hm hks hel (Sy:=fun _=>False) (fun _ h=>h.elim) yy (RC_DR (S:=fun _=>False) s1 hval) (fun x _ _=>trivial)
   exact Good.skip (exec hxv hyv r1) ⟨r2,r3,fun _ _ h=>h⟩
theorem leftE_nil (es:Array MapEntry):leftE es #[] = es.toList:=by
 unfold leftE
 exact List.filter_eq_self.2 (fun e _=>by simp)
theorem good_range (h:Pre P E w0 Ob A B F μ s a w) (hb0:Zgz μ base) {o:Oper} {t:Nat} {x:Operand} (ho:o.op = .range t x) (hf:opF E o.op base s = some (v,m')):Good P E.G w0 Ob A B F μ base o a w v m':=by
 rw [ho] at hf; simp only [opF,opK] at hf
 obtain ⟨l,k,e,lk,le,hl,hk,hlk,hle,hko,hag,hf⟩:=wM_some hf
 have hun:P.underlying t = some (.map k e):=by have:=(h.env.lay t l hl).kind; rw [hk] at this; exact this
 split at hf
 rotate_left
 · cases hf
 rename_i b hx
 split at hf
 rotate_left
 · cases hf
 rename_i κ τ l0 hbx
 obtain ⟨rfl,rfl⟩:=Zbp hf
 obtain ⟨q,hq,ad,ha,hsp⟩:=h.mem.box b _ hbx
 obtain ⟨ad',ha',hxv⟩:=map_ad h hx hq
 rw [ha] at ha'; cases ha'
 obtain ⟨ν,hd⟩:=h.mem.deep
 obtain ⟨es,clock,hm,hks,hel⟩:=hd.nest b _ q hbx hq ad ha
 let q1:MB:=⟨some ad,w.heap.size,0,0⟩
 let w':=w.alloc (.mapIter (some ad.block) clock #[] clock)
 have hsame:∀ c,c < w.heap.size -> Same w w' c:=fun c hc=>Zfk w _ hc
 have own:=h.mem.own b _ q ad hbx rfl hq ha
 have lt:∀ j,ν b j -> j < w.heap.size:=fun j hj=>(hd.own b _ j hbx hj).2.2.1
 obtain ⟨mem,tr⟩:=(h.mem.kill b).addX (hd.kill b) hb0.at0 (h.mem.ext.alloc _) (by show _ <= (w.alloc _).heap.size; simp) (w':=w') (W:=fun _=>False) (Sx:=fun j=>ν b j ∨ j = w.heap.size) (fun c hc _=>hsame c hc) (fun _ h=>h.elim) (x0:=.mpi κ τ l0) rfl (q1:=q1) ⟨ad,rfl,hsp⟩
  (fun ad' ha'=>by cases ha'; exact .inl (free_block h.mem hd hbx rfl hq ha))
  (fun j hj=>by
   rcases hj with hj | rfl
   · exact ⟨.inl (free_nest h.mem hd hbx hj),fun ad' ha' e=>by cases ha'; exact hd.apart b _ j b _ q ad hbx hj hbx rfl hq ha e.symm⟩
   · exact ⟨.inr ⟨Nat.le_refl _,by simp [w']⟩,fun ad' ha' e=>by cases ha'; have:=own.2.2.1; omega⟩)
  (fun ad' ha'=>by
   cases ha'
   refine ⟨.inr rfl,es,clock,clock,#[],clock,⟨hm.same (hsame _ own.2.2.1),(MapKept.heap_alloc w _).1,hm.born,Nat.le_refl _,Nat.le_refl _⟩,by rw [leftE_nil]; exact hks,?_⟩
   rw [leftE_nil]
   obtain ⟨T,t1,t2,t3⟩:=hel
   exact ⟨T,fun i j hj=>⟨.inl (t1 i j hj),fun e=>by have h1:=lt j (t1 i j hj); have h2:j = w.heap.size:=e; omega⟩,t2,fun i x e hp hx he=>(t3 i x e hp hx he).frame (fun _ h=>h) (fun j hj=>hsame j (lt j (t1 i j hj)))⟩)
 refine Good.value (cv:=.pointer (some ⟨w.heap.size,0,none⟩)) ?_ ⟨mem,tr,Zg2 μ base _⟩ ?_
 · unfold execOp; rw [ho]
   simp only [hxv,Sem.run_bind,run_range_map w t k e ad.block es clock hun hm.heap,Result.andThen_ok,Sem.run_pure]
   rfl
 · simp only [R]
   exact ⟨some q1,by simp [upd],_,rfl,fun q hq=>by cases hq; rfl⟩
theorem enc_RC {F:Nat -> Prop}:∀ {κ:Ty} (x:D κ),κ.keyTy = true -> RC F w κ x (encC κ x)
 | .int k,x,_=>rfl
 | .str,x,_=>rfl
 | .pr a b,x,h=>by
   simp only [Ty.keyTy,Bool.and_eq_true] at h
   exact ⟨_,_,rfl,enc_RC x.1 h.1,enc_RC x.2 h.2⟩
theorem enc_R {κ:Ty} (x:D κ) (h:κ.keyTy = true):R F B w μ (.val κ x) (encV κ x):=by
 simp only [R,encV]
 cases hκ:κ.agg with
 | true=>exact ⟨_,rfl,by simpa using enc_RC x h⟩
 | false =>
   have:=enc_RC (F:=F) (w:=w) x h
   cases κ with
   | int k=>exact this
   | str=>exact this
   | pr a b=>cases hκ
   | _=>cases h
theorem it_ad (h:Pre P E w0 Ob A B F μ s a w) {x:Operand} {b:Nat} (hx:opnd E s x = .it b) {q:MB} (hq:μ b = some (some q)):a.eval x = .pointer (some ⟨q.len,0,none⟩):=by
 have:=h.ev x
 rw [hx] at this
 simp only [R] at this
 obtain ⟨o',e1,n,e2,e3⟩:=this
 rw [hq] at e1; cases e1
 rw [e2,e3 q rfl]
theorem run_entryE {b r:Nat} {es:Array MapEntry} {clock since:Nat} {seen:Array Nat} {e:MapEntry} {κ τ:Ty} (h:IterOk w κ τ b r es clock since (seen.push e.born) clock) (he:e ∈ es.toList) :
  (Instr.entry (.pointer (some ⟨r,0,none⟩))).run P w = .ok (.tuple #[e.key,e.val]) w :=
 run_entry_at w r b since seen es clock e h.heap h.map.heap he h.map.nodup
theorem good_entry (h:Pre P E w0 Ob A B F μ s a w) (hb0:Zgz μ base) {o:Oper} {x:Operand} (ho:o.op = .entry x) (hf:opF E o.op base s = some (v,m')):Good P E.G w0 Ob A B F μ base o a w v m':=by
 rw [ho] at hf; simp only [opF,opK] at hf
 split at hf
 rotate_left
 · cases hf
 rename_i b hx
 split at hf
 rotate_left
 · cases hf
 rename_i κ τ l0 k y hbx
 split at hf
 · cases hf
 rename_i hκ
 have hκ:κ.keyTy = true:=by simpa using hκ
 obtain ⟨q,hq,ad,ha,hsp⟩:=h.mem.box b _ hbx
 have hxv:=it_ad h hx hq
 obtain ⟨ν,hd⟩:=h.mem.deep
 obtain ⟨h0,es,clock,since,seen,e,hi,hks,he,hek,S1,S2,c1,c2,c3,hel,hdr⟩:=hd.nest b _ q hbx hq ad ha
 have hrun:=run_entryE (P:=P) hi he
 have exec:(execOp a.eval o).run P w = .ok (.value (.tuple #[e.key,e.val])) w:=by
  unfold execOp; rw [ho]
  simp only [hxv,Sem.run_bind,hrun,Result.andThen_ok,Sem.run_pure]
 have hsw:=hd.swap (x':=.mpi κ τ l0) hbx rfl hq (S:=fun j=>S1 j ∨ j = q.len) (fun j hj=>hj.elim (fun h=>(c1 j h).1) (fun e=>e ▸ h0)) (fun ad' ha'=>by
  rw [ha] at ha'; cases ha'
  refine ⟨.inr rfl,es,clock,since,_,clock,hi,hks,?_⟩
  obtain ⟨T,t1,t2,t3⟩:=hel
  exact ⟨T,fun i j hj=>⟨.inl (t1 i j hj),(c1 j (t1 i j hj)).2⟩,t2,t3⟩)
 have mem1:=h.mem.swap (x':=.mpi κ τ l0) hbx rfl hq ⟨ad,ha,hsp⟩ ⟨_,hsw⟩
 split at hf
 · rename_i e' l1 y1
   obtain ⟨rfl,rfl⟩:=Zbp hf
   obtain ⟨q1,o1,o2,o3,o4,o5,o6⟩:=own_box (F:=F) (B:=B) hdr
   have free:=fun j (hj:S2 j)=>free_left (x':=.mpi κ (.sl e') l1) hd hbx rfl (S:=fun j=>S1 j ∨ j = q.len) (c2 j hj).1 (fun h=>h.elim (fun h=>c3 j h hj) (c2 j hj).2)
   obtain ⟨mem,tr⟩:=mem1.addX hsw hb0.at0 h.mem.ext (Nat.le_refl _) (W:=fun _=>False) (Sx:=fun j=>S2 j /\ ∀ ad',q1.a = some ad' -> j ≠ ad'.block) (fun _ _ _=>rfl) (fun _ h=>h.elim) ownBx_fz (q1:=q1) (o4 _) (fun ad' ha'=>.inl (free _ (o5 ad' ha')))
    (fun j hj=>⟨.inl (free j hj.1),hj.2⟩) (o6 _ (fun j ad' ha' hj hne=>⟨hj,fun ad2 ha2=>by rw [ha'] at ha2; cases ha2; exact hne⟩))
   refine Good.value exec ⟨mem,tr,Zg2 μ base _⟩ ?_
   simp only [R]
   refine ⟨_,rfl,?_⟩
   simp only [RL,and_true]
   refine ⟨?_,?_⟩
   · rw [hek]
     have:=enc_R (F:=F) (B:=B) (w:=w) (μ:=upd μ base (some q1)) k hκ
     simpa only [R] using this
   · exact ⟨some q1,by simp [upd],_,_,_,o1,fun q' e=>by cases e; exact ⟨rfl,rfl,rfl⟩⟩
 · split at hf
   rotate_left
   · cases hf
   rename_i hs
   obtain ⟨rfl,rfl⟩:=Zbp hf
   refine Good.value exec ⟨mem1,Tr.refl _ _ _ _,fun _ _ h=>h⟩ ?_
   have:=enc_R (F:=F) (B:=B) (w:=w) (μ:=μ) k hκ
   obtain ⟨s1,s2⟩:=scal_sl hs
   simp only [R]
   refine ⟨_,rfl,?_⟩
   simp only [RL,and_true]
   refine ⟨by rw [hek]; simpa only [R] using this,?_⟩
   simp only [R,s2]
   exact hdr.RC_any s1
theorem eraseIdx_filter {l:List MapEntry} {p:MapEntry -> Bool} {j:Nat} {e:MapEntry} (hn:(l.map (·.born)).Nodup) (hj:(l.filter p)[j]? = some e):l.filter (fun x=>p x && !(x.born == e.born)) = (l.filter p).eraseIdx j:=by
 have e0:(fun x:MapEntry=>p x && !(x.born == e.born)) = fun x=>(!(x.born == e.born)) && p x:=by funext x; rw [Bool.and_comm]
 rw [e0,← List.filter_filter]
 have hn':((l.filter p).map (·.born)).Nodup:=(List.Sublist.map _ List.filter_sublist).nodup hn
 generalize l.filter p = r at hj hn'
 induction r generalizing j with
 | nil=>simp at hj
 | cons x r ih =>
   simp only [List.map_cons,List.nodup_cons] at hn'
   cases j with
   | zero =>
     simp at hj; subst hj
     simp only [List.eraseIdx_cons_zero]
     rw [List.filter_cons_of_neg (by simp)]
     exact List.filter_eq_self.2 (fun y hy=>by
      have:y.born ≠ x.born:=fun h=>hn'.1 (List.mem_map.2 ⟨y,hy,h⟩)
      simpa using this)
   | succ j =>
     simp at hj
     have hne:x.born ≠ e.born:=fun h=>hn'.1 (List.mem_map.2 ⟨e,List.mem_of_getElem? hj,h.symm⟩)
     simp only [List.eraseIdx_cons_succ]
     rw [List.filter_cons_of_pos (by simpa using hne),ih hj hn'.2]
theorem Mem.next (h:Mem G w0 Ob A B F μ m w) {b:Nat} {κ τ:Ty} {l:List (D κ × D τ)} (hb:m.at b = some (.mpi κ τ l)) {q:MB} (hq:μ b = some (some q)) (ty:Nat) :
  (l = [] /\ (Instr.next (.pointer (some ⟨q.len,0,none⟩)) false ty).run P w = .ok (.tuple #[.bool false]) w) ∨
  ∃ (j:Nat) (hj:j < l.length) (k v:Value) (w':World),(Instr.next (.pointer (some ⟨q.len,0,none⟩)) false ty).run P w = .ok (.tuple #[.bool true,k,v]) w' /\
    Mem G w0 Ob A B F μ ((b,some (.mpe κ τ (l.eraseIdx j) l[j].1 l[j].2)) :: m) w' /\ Tr B F F μ μ w w':=by
 obtain ⟨ν,hd⟩:=h.deep
 obtain ⟨_,hq',ad,ha,hsp⟩:=h.box b _ hb
 rw [hq] at hq'; cases hq'
 obtain ⟨h0,es,clock,since,seen,c0,hi,hks,T,t1,t2,t3⟩:=hd.nest b _ q hb hq ad ha
 have hlo:(leftOf es seen).toList = leftE es seen:=by unfold leftOf leftE; rw [Array.toList_filter]
 have hlen:(leftE es seen).length = l.length:=by have:=congrArg List.length hks; simpa using this
 rcases run_next_at (P:=P) w ty q.len ad.block since c0 seen es clock hi.heap hi.map.heap hi.old hi.sc with ⟨h1,h2⟩ | ⟨e,he,w1,hw1,hrun⟩
 · refine .inl ⟨?_,h2⟩
   have:(leftE es seen).length = 0:=by rw [← hlo]; simpa using h1
   exact List.length_eq_zero_iff.1 (by omega)
 · rw [hlo] at he
   obtain ⟨j,hj⟩:=List.getElem?_of_mem he
   have hjl:j < l.length:=by rw [← hlen]; exact (List.getElem?_eq_some_iff.1 hj).1
   obtain ⟨x,hx,hxe⟩:=keys_at hks hj
   have hxj:l[j] = x:=by have:=List.getElem?_eq_some_iff.1 hx; exact this.2
   have hem:e ∈ es.toList:=by unfold leftE at he; exact (List.mem_filter.1 he).1
   have own:=hd.own b _ q.len hb h0
   have hw1h:w1.heap = w.heap /\ Ext (G = []) Ob w0 w1:=by
    rcases hw1 with rfl | rfl
    · exact ⟨rfl,h.ext⟩
    · exact ⟨rfl,h.ext.drew⟩
   let w':=setBlock w1 q.len (.mapIter (some ad.block) since (seen.push e.born) clock)
   have hsame:∀ c,c ≠ q.len -> Same w w' c:=fun c hc=>by
    have h1:=Zg9 w1 q.len (.mapIter (some ad.block) since (seen.push e.born) clock) hc
    have h2:w'.heap[c]? = w1.heap[c]?:=h1
    show w'.heap[c]? = w.heap[c]?
    rw [h2,hw1h.1]
   have hne:ad.block ≠ q.len:=hd.apart b _ _ b _ q ad hb h0 hb rfl hq ha
   have hleft:leftE es (seen.push e.born) = (leftE es seen).eraseIdx j:=by
    unfold leftE at hj ⊢
    rw [← eraseIdx_filter hi.map.nodup hj]
    apply List.filter_congr
    intro y _
    simp only [Array.contains_push,Bool.not_or]
   obtain ⟨mem,tr⟩:=h.setX hd hb rfl hq (w':=w') (hw1h.2.setBlock own.2.2.2 _) (by rw [Zio,hw1h.1]; omega) (W:=fun c=>c = q.len) (S:=ν b) (fun c _ hc=>hsame c hc) (fun c hc=>.inr (hc ▸ h0)) (x':=.mpe κ τ (l.eraseIdx j) l[j].1 l[j].2) rfl ⟨ad,ha,hsp⟩ (fun j hj=>.inl hj) (fun ad' ha'=>by
    rw [ha] at ha'; cases ha'
    have hr1:w1.heap[q.len]? = some (.mapIter (some ad.block) since seen c0):=by rw [hw1h.1]; exact hi.heap
    refine ⟨h0,es,clock,since,seen,e,⟨hi.map.same (hsame _ hne),?_,hi.old,hi.sk,hi.sk⟩,?_,hem,by rw [hxj]; exact hxe,fun k=>∃ i,i ≠ j /\ T i k,T j,fun k ⟨i,_,hk⟩=>t1 i k hk,t1 j,fun k ⟨i,hi,hk⟩ hk'=>hi (t2 i j k hk hk'),?_,?_⟩
    · show (w1.heap.setIfInBounds q.len _)[q.len]? = _
      simp [(Array.getElem?_eq_some_iff.1 hr1).1]
    · rw [hleft,map_eraseIdx,hks,← map_eraseIdx]
    · rw [hleft]
      refine ⟨fun i k=>if i < j then T i k else T (i + 1) k,fun i k hk=>?_,fun i i' k hk hk'=>?_,fun i x e' _ hx he'=>?_⟩
      · have hk:(if i < j then T i k else T (i + 1) k):=hk
        split at hk
        · exact ⟨i,by omega,hk⟩
        · exact ⟨i + 1,by omega,hk⟩
      · have hk:(if i < j then T i k else T (i + 1) k):=hk
        have hk':(if i' < j then T i' k else T (i' + 1) k):=hk'
        split at hk <;> split at hk' <;> (have:=t2 _ _ k hk hk'; omega)
      · rw [List.getElem?_eraseIdx] at hx he'
        split at hx
        · rename_i hij
          rw [if_pos hij] at he'
          exact (t3 i x e' trivial hx he').frame (fun k hk=>by show (if i < j then T i k else T (i + 1) k); rw [if_pos hij]; exact hk) (fun k hk=>hsame k (t1 i k hk).2)
        · rename_i hij
          rw [if_neg hij] at he'
          exact (t3 (i + 1) x e' trivial hx he').frame (fun k hk=>by show (if i < j then T i k else T (i + 1) k); rw [if_neg hij]; exact hk) (fun k hk=>hsame k (t1 _ k hk).2)
    · rw [hxj]
      exact (t3 j x e trivial hx hj).frame (fun _ h=>h) (fun k hk=>hsame k (t1 _ k hk).2))
   exact .inr ⟨j,hjl,e.key,e.val,w',hrun,mem,tr⟩
end
end Go.E
namespace Go.E
open Go Go.RowKit
section
variable {P:Program} {E:Env} {w0:World} {Ob A B F:Nat -> Prop} {μ:Mu} {m:Hp} {w:World} {base:Nat} {s:St} {a:Act} {v:V} {m':Hp}
theorem good_call (hE:EnvC P E) (h:Pre P E w0 Ob A B F μ s a w) (hb:Zgz μ base) {o:Oper} {c:Call} (ho:o.op = .call c) {f:Operand} (hc:c.callee = .value f) {g:Nat} {caps:List V} (hg:opnd E s f = .fn g caps)
  (hf:callK E g c.argTypes.toList (c.args.toList.map (opnd E s) ++ caps) base (downs E.dn g (c.args.toList.map (opnd E s)) s.m) (fun v m=>some (v,m)) = some (v,m')):Good P E.G w0 Ob A B F μ base o a w v m':=by
 have hfv:=h.ev f
 rw [hg] at hfv
 simp only [R] at hfv
 obtain ⟨captured,ef,hcap⟩:=hfv
 have hargs:RL F B w μ (c.args.toList.map (opnd E s) ++ caps) (c.args.map a.eval ++ captured).toList:=by
  simpa using RL.app (RL_map h.ev c.args.toList) hcap
 have hex:execOp a.eval o = callFunc g (c.args.map a.eval ++ captured):=by
  unfold execOp
  rw [ho]
  cases c with
  | mk callee args ats =>
    simp only at hc; subst hc
    simp [resolve,Deferred.ofValue,invoke,ef]
 intro Q N hN
 obtain ⟨F1,mem1,tr1⟩:=h.mem.downs E.dn g (c.args.toList.map (opnd E s))
 have hd:=call_ok hE mem1 hb (tr1.RL hargs) hf
 unfold Oper.wp
 rw [hex]
 rcases hd with ⟨h1,h2⟩ | ⟨cv,w',h1,F',μ',h2,h3⟩
 · rw [h1]
   simp only [Oper.upon_enter]
   refine h2.mono ?_
   rintro e w' ⟨cv,rfl,F',μ',h3,h4⟩
   exact hN cv w' F' μ' ⟨h3.mem,tr1.trans h3.tr,h3.loc⟩ h4
 · rw [h1]
   exact hN cv w' F' μ' ⟨h2.mem,tr1.trans h2.tr,h2.loc⟩ h3
set_option maxHeartbeats 1000000 in
theorem good_op (hE:EnvC P E) (h:Pre P E w0 Ob A B F μ s a w) (hb:Zgz μ base) {o:Oper} (hf:opF E o.op base s = some (v,m')):Good P E.G w0 Ob A B F μ base o a w v m':=by
 cases ho:o.op with
 | move x=>exact good_move h ho hf
 | assign x=>exact good_assign h ho hf
 | pick c x y=>exact good_pick h ho hf
 | alloc t=>exact good_alloc h hb ho hf
 | box t x=>exact good_box h hb ho hf
 | build t ps=>exact good_build h ho hf
 | buildSlice t l ps =>
   by_cases hd:∃ τ r m2,m' = (base,some (.dp τ r)) :: m2
   · exact good_buildSliceD h hb ho hd hf
   · exact good_buildSlice h hb ho (fun τ r m2 e=>hd ⟨τ,r,m2,e⟩) hf
 | load t x =>
   by_cases hd:DeepEp s (opnd E s x)
   · exact good_loadD h hb ho hd hf
   · exact good_load h ho hd hf
 | store t x y =>
   by_cases hd:DeepEp s (opnd E s x)
   · exact good_storeD h ho hd hf
   · exact good_store h ho hd hf
 | nilCheck x=>exact good_nilCheck h ho hf
 | binOp op t x y u=>exact good_binOp h ho hf
 | unOp op t x=>exact good_unOp h ho hf
 | convert x y z=>exact good_convert h hb ho hf
 | fieldAddr t x i=>exact good_fieldAddr h ho hf
 | field t x i=>exact good_field h ho hf
 | indexAddr t x i=>exact good_indexAddr h ho hf
 | index t x i=>exact good_index h ho hf
 | slice t x lo hi mx=>exact good_slice h ho hf
 | makeSlice t x y=>exact good_makeSlice h hb ho hf
 | extract x i=>exact good_extract h ho hf
 | makeMap t x=>exact good_makeMap h hb ho hf
 | lookup t x i ok=>exact good_lookup h hb ho hf
 | mapUpdate t x i y=>exact good_mapUpdate h ho hf
 | range t x=>exact good_range h hb ho hf
 | entry x=>exact good_entry h hb ho hf
 | makeFunc fn x y =>
   cases fn with
   | func f=>exact good_makeFunc h ho hf
   | _=>rw [ho] at hf; simp [opF,opK] at hf
 | call c =>
   have hf0:=hf
   rw [ho] at hf; simp only [opF,opK] at hf
   split at hf
   · rename_i b hc
     obtain ⟨xs,hx⟩:∃ xs,c.args.toList.map (opnd E s) = xs:=⟨_,rfl⟩
     obtain ⟨ts,hts⟩:∃ ts,c.argTypes.toList = ts:=⟨_,rfl⟩
     rw [hx,hts] at hf
     have hf1:=hf
     unfold Zea at hf
     split at hf
     · exact good_len h ho hc hx hts hf1
     · by_cases hd:∃ τ r m2,m' = (base,some (.dp τ r)) :: m2
       · exact good_appendD h hb ho hc hx hts hd hf1
       · exact good_append h hb ho hc hx hts (fun τ r m2 e=>hd ⟨τ,r,m2,e⟩) hf1
     · split at hf
       · rename_i e; subst e
         obtain ⟨rfl,rfl⟩:=Zbp hf
         exact good_min2 h ho hc hx rfl rfl
       · cases hf
     · split at hf
       · rename_i e; subst e
         obtain ⟨rfl,rfl⟩:=Zbp hf
         exact good_max2 h ho hc hx rfl rfl
       · cases hf
     · split at hf
       · rename_i e; obtain ⟨e1,e2⟩:=e; subst e1; subst e2
         obtain ⟨rfl,rfl⟩:=Zbp hf
         exact good_min3 h ho hc hx rfl rfl
       · cases hf
     · cases hf
   · rename_i f hc
     split at hf
     · rename_i g caps hg
       exact good_call hE h hb ho hc hg hf
     · cases hf
   · cases hf
 | _=>rw [ho] at hf; simp [opF,opK] at hf
end
end Go.E
namespace Go.E
open Go Go.RowKit
structure Rl (E:Env) (w0:World) (Ob A B:Nat -> Prop) (N:Nat) (μ0:Mu) (base:Nat) (F:Nat -> Prop) (μ:Mu) (s:St) (a:Act) (w:World):Prop where
 mem:Mem E.G w0 Ob A B F μ s.m w
 tmps:∀ t,R F B w μ (s.get t) (a.tmps.getD t undef)
 size:a.tmps.size = N
 defers:a.defers = []
 free:∀ id,base <= id -> μ id = none
 keep:μ0.le μ
def Rel (E:Env) (w0:World) (Ob A B:Nat -> Prop) (N:Nat) (μ0:Mu) (base:Nat) (s:St) (a:Act) (w:World):Prop:=∃ F μ,Rl E w0 Ob A B N μ0 base F μ s a w
section
variable {P:Program} {E:Env} {w0:World} {Ob A B F:Nat -> Prop} {μ:Mu} {m:Hp} {w:World} {N base:Nat} {μ0:Mu} {s s':St} {a:Act} {v:V} {m':Hp}
theorem Rl.pre (hE:EnvC P E) (h:Rl E w0 Ob A B N μ0 base F μ s a w):Pre P E w0 Ob A B F μ s a w where
 env:=hE.ok
 mem:=h.mem
 ev x:=by
  cases x with
  | tmp t=>exact h.tmps t
  | const v=>exact ofVal_ok F B w μ v
  | global g =>
    simp only [opnd]
    split
    · rename_i cs hg; exact h.mem.glob.1 g cs hg
    · simp only [R]
  | func f=>simp only [opnd,R]; exact ⟨#[],rfl,by simp [RL]⟩
theorem Rl.fresh (h:Rl E w0 Ob A B N μ0 base F μ s a w):Zgz μ base:=fun k _=>h.free _ (by omega)
theorem Zhi (s:St) (d:Option Nat) (v:V) (t:Nat):(s.put d v).get t = if d = some t then v else s.get t:=by
 cases d with
 | none=>simp [St.put]
 | some d =>
   simp only [St.put,St.get,look]
   by_cases h:d = t
   · subst h; simp
   · simp [h]
theorem put_m (s:St) (d:Option Nat) (v:V):(s.put d v).m = s.m:=by cases d <;> rfl
def dstOk (N:Nat) (o:Oper):Bool:=match o.dst with
 | some d=>decide (d < N)
 | none=>true
theorem getD_put {a:Act} {N:Nat} (hN:a.tmps.size = N) {d:Option Nat} (hd:∀ t,d = some t -> t < N) (cv:Value) (t:Nat):(a.put d cv).tmps.getD t undef = if d = some t then cv else a.tmps.getD t undef:=by
 cases d with
 | none=>simp [Act.put]
 | some d =>
   have:=hd d rfl
   simp only [Act.put,Array.getD_eq_getD_getElem?,Option.some.injEq]
   by_cases h:d = t
   · subst h; simp [hN,this]
   · simp [h]
theorem size_put (a:Act) (d:Option Nat) (cv:Value):(a.put d cv).tmps.size = a.tmps.size:=by cases d <;> simp [Act.put]
theorem defers_put (a:Act) (d:Option Nat) (cv:Value):(a.put d cv).defers = a.defers:=by cases d <;> rfl
theorem Rl.put (h:Rl E w0 Ob A B N μ0 base F μ s a w) {d:Option Nat} (hd:∀ t,d = some t -> t < N) {cv:Value} (hv:R F B w μ v cv):Rl E w0 Ob A B N μ0 base F μ (s.put d v) (a.put d cv) w where
 mem:=by rw [put_m]; exact h.mem
 tmps t:=by
  rw [Zhi,getD_put h.size hd]; split
  · exact hv
  · exact h.tmps t
 size:=by rw [size_put]; exact h.size
 defers:=by rw [defers_put]; exact h.defers
 free:=h.free
 keep:=h.keep
theorem Rl.step (h:Rl E w0 Ob A B N μ0 base F μ s a w) {F':Nat -> Prop} {μ':Mu} {w':World} {b:Nat} (hb:base <= b) (hs:Step1 E.G w0 Ob A B F μ w b F' μ' m' w'):Rl E w0 Ob A B N μ0 (b + Zed) F' μ' { s with m:=m' } a w' where
 mem:=hs.mem
 tmps t:=hs.tr.R (h.tmps t)
 size:=h.size
 defers:=h.defers
 free id hid:=hs.loc id (by unfold Zed at hid; omega) (h.free id (by unfold Zed at hid; omega))
 keep:=Mu.le_trans h.keep hs.tr.mu
theorem Rl.weak (h:Rl E w0 Ob A B N μ0 base F μ s a w) {b:Nat} (hb:base <= b):Rl E w0 Ob A B N μ0 b F μ s a w:=⟨h.mem,h.tmps,h.size,h.defers,fun id hid=>h.free id (by omega),h.keep⟩
def Eqv (s s':St):Prop:=s.m = s'.m /\ ∀ t,s.get t = s'.get t
theorem Rl.eqv (h:Rl E w0 Ob A B N μ0 base F μ s a w) (e:Eqv s s'):Rl E w0 Ob A B N μ0 base F μ s' a w:=⟨e.1 ▸ h.mem,fun t=>e.2 t ▸ h.tmps t,h.size,h.defers,h.free,h.keep⟩
theorem Rl.guard (h:Rl E w0 Ob A B N μ0 base F μ s a w) {ops:Array Oper} {j:Nat} {oj:Oper} {d:Nat} (hj:ops[j]? = some oj) (hd:oj.dst = some d) (hdN:d < N) :
  (∀ b,s.get d = .val .bool b -> yielded ops a.tmps j = some b) /\ (s.get d = .tup [] -> yielded ops a.tmps j = none):=by
 have e:yielded ops a.tmps j = match a.tmps[d]? with | some (.bool b)=>some b | _=>none:=by
  simp only [yielded,hj,hd,Option.bind_some]
  rfl
 have e2:a.tmps[d]? = some (a.tmps.getD d undef):=by
  rw [Array.getD_eq_getD_getElem?,Array.getElem?_eq_getElem (by rw [h.size]; exact hdN)]; rfl
 have hr:=h.tmps d
 constructor
 · intro b hb
   rw [hb] at hr
   rw [e,e2,R_bool hr]
 · intro hb
   rw [hb] at hr
   simp only [R] at hr
   obtain ⟨vs,e3,_⟩:=hr
   rw [e,e2,e3]
theorem sound_op (hE:EnvC P E) (h:Rl E w0 Ob A B N μ0 base F μ s a w) {b:Nat} (hb:base <= b) {o:Oper} (hd:dstOk N o = true) (hf:opF E o.op b s = some (v,m')) {Nx:Act -> World -> Prop} {Q:Exit -> Act -> World -> Prop}
  (hN:∀ a' w',Rel E w0 Ob A B N μ0 (b + Zed) ({ s with m:=m' }.put o.dst v) a' w' -> Nx a' w'):o.wp P a w Nx Q:=by
 refine good_op hE (h.pre hE) (h.weak hb).fresh hf Q Nx (fun cv w' F' μ' hs hv=>hN _ _ ⟨F',μ',(h.step hb hs).put (fun t e=>?_) hv⟩)
 unfold dstOk at hd; rw [e] at hd; simpa using hd
theorem R_undef0 (F B:Nat -> Prop) (w:World) (μ:Mu):R F B w μ (.tup []) Go.undef:=by simp only [R]; exact ⟨#[],rfl,by simp [RL]⟩
theorem dst_lt {o:Oper} (hd:dstOk N o = true):∀ t,o.dst = some t -> t < N:=fun t e=>by unfold dstOk at hd; rw [e] at hd; simpa using hd
theorem iteB_cases {R:Type} {b:Bool} {x y:Option R} {r:R} (h:iteB b x y = some r):(b = true /\ x = some r) ∨ (b = false /\ y = some r):=Zfj h
theorem Zgp {d:Nat} {b:Bool} (h:s.get d = .val .bool b):Eqv s (s.put (some d) (.val .bool b)):=by
 refine ⟨rfl,fun t=>?_⟩
 rw [Zhi]
 split
 · rename_i e; cases e; exact h
 · rfl
theorem sound_ops (hE:EnvC P E) {ops:Array Oper} (hN:ops.all (dstOk N) = true) {ρ:Type} {K:St -> Option ρ} {r:ρ} {Q:Exit -> Act -> World -> Prop} :
  ∀ (l:List Oper) (is:List Nat),is.map (fun i=>ops[i]?) = l.map some -> ∀ (base:Nat) (s:St) (a:Act) (w:World),Rel E w0 Ob A B N μ0 base s a w -> opsK E ops l base s K = some r ->
    (∀ s' a' w',K s' = some r -> Rel E w0 Ob A B N μ0 s'.n s' a' w' -> Q .normal a' w') -> wpOps P ops Q is a w
 | [],[],_,base,s,a,w,⟨F,μ,h⟩,hr,hQ=>by
   simp only [opsK] at hr
   simp only [wpOps]
   exact hQ _ a w hr ⟨F,μ,h.mem,h.tmps,h.size,h.defers,h.free,h.keep⟩
 | [],_ :: _,hi,_,_,_,_,_,_,_=>by simp at hi
 | _ :: _,[],hi,_,_,_,_,_,_,_=>by simp at hi
 | o :: l,i :: is,hi,base,s,a,w,⟨F,μ,h⟩,hr,hQ=>by
   simp only [List.map_cons,List.cons.injEq] at hi
   obtain ⟨hio,hi⟩:=hi
   have hmem:∀ {k:Nat} {ok:Oper},ops[k]? = some ok -> dstOk N ok = true:=fun {k ok} e=>Array.all_eq_true_iff_forall_mem.1 hN ok (Array.mem_of_getElem? e)
   have hd:=hmem hio
   have doit:∀ s,Rl E w0 Ob A B N μ0 base F μ s a w -> (opK E o.op base s fun v m=>opsK E ops l (base + Zed) ({ s with m:=m }.put o.dst v) K) = some r -> o.wp P a w (wpOps P ops Q is) Q:=fun s h hr=>by
    rw [opK_eq hE.ok.nat,Option.bind_eq_some_iff] at hr
    obtain ⟨⟨v,m'⟩,h1,h2⟩:=hr
    exact sound_op hE h (Nat.le_refl _) hd h1 (fun a' w' hrel=>sound_ops hE hN l is hi _ _ a' w' hrel h2 hQ)
   have skip:∀ s,Rl E w0 Ob A B N μ0 base F μ s a w -> opsK E ops l (base + Zed) (s.put o.dst (.tup [])) K = some r -> wpOps P ops Q is (a.put o.dst undef) w:=fun s h hr =>
    sound_ops hE hN l is hi _ _ _ _ ⟨F,μ,(h.weak (by omega)).put (dst_lt hd) (R_undef0 _ _ _ _)⟩ hr hQ
   simp only [wpOps,hio]
   simp only [opsK] at hr
   split at hr
   · rename_i hg
     rw [if_pos (by simp [Region.wanted,hg])]
     exact .inl (doit s h hr)
   · rename_i j want hg
     have hwt:Region.wanted o (yielded ops a.tmps) = (yielded ops a.tmps j == some want):=by simp [Region.wanted,hg]
     split at hr
     · cases hr
     rename_i oj hoj
     split at hr
     · cases hr
     rename_i d hdj
     have hdN:=dst_lt (hmem hoj) d hdj
     obtain ⟨g1,g2⟩:=h.guard hoj hdj hdN
     split at hr
     · rename_i b hb
       have hy:=g1 b hb
       rw [hwt,hy]
       split at hr
       · rcases iteB_cases hr with ⟨rfl,hr⟩ | ⟨rfl,hr⟩
         · rw [if_pos (by simp)]; exact .inl (doit _ (h.eqv (Zgp hb)) hr)
         · rw [if_neg (by simp)]; exact skip _ (h.eqv (Zgp hb)) hr
       · rcases iteB_cases hr with ⟨rfl,hr⟩ | ⟨rfl,hr⟩
         · rw [if_neg (by simp)]; exact skip _ (h.eqv (Zgp hb)) hr
         · rw [if_pos (by simp)]; exact .inl (doit _ (h.eqv (Zgp hb)) hr)
     · rename_i hb
       rw [hwt,g2 hb,if_neg (by simp)]
       exact skip s h hr
     · cases hr
end
end Go.E
namespace Go.E
open Go Go.RowKit
section
variable {P:Program} {E:Env} {G:List (Nat × List V)} {w0:World} {Ob A B F:Nat -> Prop} {μ:Mu} {m:Hp} {w:World} {N base:Nat} {μ0:Mu} {s s':St} {a:Act} {v:V} {m':Hp}
structure CInv (F B:Nat -> Prop) (w:World) (μ:Mu) (m:Hp) (a:Acc) (ν:Mu):Prop where
 ren:∀ b c,look a.ren b = some c -> c < a.n /\ ν c = μ b
 dom:∀ c,a.n <= c -> ν c = none
 heap:∀ c x',a.m.at c = some x' -> ∃ b x q,look a.ren b = some c /\ m.at b = some x /\ μ b = some (some q) /\ x'.isFz = x.isFz /\ Zd2 F B w ν x' q /\ ∀ S,Nest w q S x -> Nest w q S x'
 inj:∀ b b' c,look a.ren b = some c -> look a.ren b' = some c -> b = b'
def Mu.sub (ν ν':Mu):Prop:=∀ c o,ν c = some o -> ν' c = some o
theorem Mu.sub.le {ν ν':Mu} (h:ν.sub ν'):ν.le ν':=fun c o e=>⟨o,h c o e,.inr rfl⟩
theorem Mu.sub.trans {ν ν' ν'':Mu} (h:ν.sub ν') (k:ν'.sub ν''):ν.sub ν'':=fun c o e=>k c o (h c o e)
theorem tr_mu {B F:Nat -> Prop} {w:World} {ν ν':Mu} (h:ν.sub ν'):Tr B F F ν ν' w w:=⟨fun _ x=>x,fun _ _ _ _ e=>e,fun _ _ _ _ e=>e,h.le⟩
theorem Zen {α:Type} (k:Nat) (x:α) (l:List (Nat × α)) (j:Nat):look ((k,x) :: l) j = if k = j then some x else look l j:=rfl
theorem CInv.new {c0:Acc} {ν:Mu} (h:CInv F B w μ m c0 ν) {b:Nat} (hb:look c0.ren b = none) :
  CInv F B w μ m { ren:=(b,c0.n) :: c0.ren,m:=c0.m,n:=c0.n + 1 } (fun c=>if c = c0.n then μ b else ν c) /\ ν.sub (fun c=>if c = c0.n then μ b else ν c):=by
 have sub:ν.sub (fun c=>if c = c0.n then μ b else ν c):=fun c o e=>by
  simp only
  rw [if_neg,e]
  rintro rfl
  rw [h.dom c0.n (Nat.le_refl _)] at e; cases e
 refine ⟨⟨fun b' c e=>?_,fun c hc=>?_,fun c x' hx=>?_,fun b1 b2 c e1 e2=>?_⟩,sub⟩
 · rw [Zen] at e
   split at e
   · rename_i e'; subst e'; cases e; exact ⟨Nat.lt_succ_self _,by simp⟩
   · have:=h.ren b' c e
     exact ⟨Nat.lt_succ_of_lt this.1,by show (if _ then _ else _) = _; rw [if_neg (by omega)]; exact this.2⟩
 · have hc':c0.n + 1 <= c:=hc
   show (if _ then _ else _) = _
   rw [if_neg (by omega)]; exact h.dom c (by omega)
 · obtain ⟨b',x,q,h1,h2,h3,h4,h5,h6⟩:=h.heap c x' hx
   refine ⟨b',x,q,?_,h2,h3,h4,h5.mono (tr_mu sub) (fun _ _ _=>rfl),h6⟩
   rw [Zen,if_neg]; · exact h1
   rintro rfl
   rw [hb] at h1; cases h1
 · rw [Zen] at e1 e2
   split at e1 <;> split at e2
   · rename_i x y; exact x.symm.trans y
   · cases e1; have:=(h.ren b2 _ e2).1; omega
   · cases e2; have:=(h.ren b1 _ e1).1; omega
   · exact h.inj b1 b2 c e1 e2
theorem CInv.box {c0:Acc} {ν:Mu} (h:CInv F B w μ m c0 ν) {b c:Nat} {x x':Bx} {q:MB} (h1:look c0.ren b = some c) (h2:m.at b = some x) (h3:μ b = some (some q)) (h4:x'.isFz = x.isFz) (h5:Zd2 F B w ν x' q) (h6:∀ S,Nest w q S x -> Nest w q S x') :
  CInv F B w μ m { c0 with m:=(c,some x') :: c0.m } ν:=by
 refine ⟨h.ren,h.dom,fun c' y hy=>?_,h.inj⟩
 rw [Hp.at_cons] at hy
 split at hy
 · rename_i e; subst e; cases hy; exact ⟨b,x,q,h1,h2,h3,h4,h5,h6⟩
 · exact h.heap c' y hy
def CGood (F B:Nat -> Prop) (w:World) (μ:Mu) (m:Hp) (f:V -> Acc -> V × Acc):Prop:=∀ v c0 ν,CInv F B w μ m c0 ν ->
 ∃ ν',CInv F B w μ m (f v c0).2 ν' /\ ν.sub ν' /\ (∀ b c,look c0.ren b = some c -> look (f v c0).2.ren b = some c) /\ ∀ cv,R F B w μ v cv -> R F B w ν' (f v c0).1 cv
theorem accMap_ok {f:V -> Acc -> V × Acc} (hf:CGood F B w μ m f):∀ (l:List V) (c0:Acc) (ν:Mu),CInv F B w μ m c0 ν ->
  ∃ ν',CInv F B w μ m (Zga f l c0).2 ν' /\ ν.sub ν' /\ (∀ b c,look c0.ren b = some c -> look (Zga f l c0).2.ren b = some c) /\ ∀ vs,RL F B w μ l vs -> RL F B w ν' (Zga f l c0).1 vs
 | [],c0,ν,h=>⟨ν,h,fun _ _ e=>e,fun _ _ e=>e,fun vs hr=>by cases vs <;> simp only [RL] at hr; simp only [Zga,RL]⟩
 | v :: l,c0,ν,h=>by
   obtain ⟨ν1,i1,s1,r1,k1⟩:=hf v c0 ν h
   obtain ⟨ν2,i2,s2,r2,k2⟩:=accMap_ok hf l _ ν1 i1
   refine ⟨ν2,i2,s1.trans s2,fun b c e=>r2 b c (r1 b c e),fun vs hr=>?_⟩
   cases vs with
   | nil=>simp only [RL] at hr
   | cons cv vs =>
     simp only [RL] at hr
     simp only [Zga,RL]
     exact ⟨(tr_mu s2).R (k1 cv hr.1),k2 vs hr.2⟩
theorem canV_ok (hM:Mem G w0 Ob A B F μ m w):∀ k,CGood F B w μ m (canV m k)
 | 0,v,c0,ν,h=>⟨ν,h,fun _ _ e=>e,fun _ _ e=>e,fun cv _=>by simp only [canV,R]⟩
 | k + 1,v,c0,ν,h=>by
   have ih:=canV_ok hM k
   have same:∀ v',(∀ cv,R F B w μ v cv -> R F B w ν v' cv) -> ∃ ν',CInv F B w μ m c0 ν' /\ ν.sub ν' /\ (∀ b c,look c0.ren b = some c -> look c0.ren b = some c) /\ ∀ cv,R F B w μ v cv -> R F B w ν' v' cv :=
    fun v' hv=>⟨ν,h,fun _ _ e=>e,fun _ _ e=>e,hv⟩
   have und:∀ cv,R F B w μ v cv -> R F B w ν .undef cv:=fun cv _=>by simp only [R]
   have list:∀ (l:List V) (mk:List V -> V),(∀ cv,R F B w μ v cv -> ∀ ν' l',(∀ vs,RL F B w μ l vs -> RL F B w ν' l' vs) -> R F B w ν' (mk l') cv) ->
     ∃ ν',CInv F B w μ m (Zga (canV m k) l c0).2 ν' /\ ν.sub ν' /\ (∀ b c,look c0.ren b = some c -> look (Zga (canV m k) l c0).2.ren b = some c) /\ ∀ cv,R F B w μ v cv -> R F B w ν' (mk (Zga (canV m k) l c0).1) cv:=fun l mk hmk=>by
    obtain ⟨ν1,i1,s1,r1,k1⟩:=accMap_ok ih l c0 ν h
    exact ⟨ν1,i1,s1,r1,fun cv hr=>hmk cv hr _ _ k1⟩
   cases v with
   | undef=>exact same _ und
   | val τ x=>exact same _ (fun cv hr=>Zgs (fun _ x=>x) (Zd3 _ _) rfl hr)
   | nil=>exact same _ (fun cv hr=>Zgs (fun _ x=>x) (Zd3 _ _) rfl hr)
   | nilp=>exact same _ (fun cv hr=>Zgs (fun _ x=>x) (Zd3 _ _) rfl hr)
   | ep b i off=>exact same _ und
   | cut b lo hi=>exact same _ (fun cv hr=>by simp only [canV,R])
   | rp τ x=>exact same _ (fun cv hr=>by simp only [R] at hr ⊢; exact hr)
   | agg cs=>exact list cs .agg (fun cv hr ν' l' hl=>by simp only [R] at hr ⊢; obtain ⟨vs,e,k⟩:=hr; exact ⟨vs,e,hl _ k⟩)
   | tup cs=>exact list cs .tup (fun cv hr ν' l' hl=>by simp only [R] at hr ⊢; obtain ⟨vs,e,k⟩:=hr; exact ⟨vs,e,hl _ k⟩)
   | rc cs=>exact list cs .rc (fun cv hr ν' l' hl=>by simp only [R] at hr ⊢; obtain ⟨ad,vs,e1,e2,e3,e4,e5⟩:=hr; exact ⟨ad,vs,e1,e2,e3,hl _ e4,e5⟩)
   | fn f cs=>exact list cs (.fn f) (fun cv hr ν' l' hl=>by simp only [R] at hr ⊢; obtain ⟨vs,e,k⟩:=hr; exact ⟨vs,e,hl _ k⟩)
   | arr b =>
     have arrR:∀ ν' c,(ν' c = μ b) -> ∀ cv,R F B w μ (.arr b) cv -> R F B w ν' (.arr c) cv:=fun ν' c e cv hr=>by
      simp only [R] at hr ⊢; rw [e]; exact hr
     simp only [canV]
     split
     · rename_i c hc
       exact same _ (arrR ν c (h.ren b c hc).2)
     · rename_i hc
       obtain ⟨n1,n2⟩:=h.new hc
       have hn:(fun c=>if c = c0.n then μ b else ν c) c0.n = μ b:=by simp
       have fin:∀ x:Bx,m.at b = some x -> (∀ ν' q,ν.sub ν' -> Zd2 F B w μ x q -> Zd2 F B w ν' x q) ->
         ∃ ν',CInv F B w μ m { ren:=(b,c0.n) :: c0.ren,m:=(c0.n,some x) :: c0.m,n:=c0.n + 1 } ν' /\ ν.sub ν' /\
           (∀ b' c,look c0.ren b' = some c -> look ((b,c0.n) :: c0.ren) b' = some c) /\ ∀ cv,R F B w μ (.arr b) cv -> R F B w ν' (.arr c0.n) cv:=fun x hx hbx=>by
        obtain ⟨q,e1,e2⟩:=hM.box b x hx
        refine ⟨_,n1.box (by rw [Zen,if_pos rfl]) hx e1 rfl (hbx _ q n2 e2) (fun _ h=>h),n2,fun b' c e=>?_,arrR _ _ hn⟩
        rw [Zen,if_neg]; · exact e
        rintro rfl
        rw [hc] at e; cases e
       split
       · rename_i τ l hx; exact fin _ hx (fun ν' q _ hb=>hb)
       · rename_i τ l hx; exact fin _ hx (fun ν' q _ hb=>hb)
       · rename_i τ l hx; exact fin _ hx (fun ν' q _ hb=>hb)
       · exact same _ und
   | map b =>
     have mapR:∀ ν' c,(ν' c = μ b) -> ∀ cv,R F B w μ (.map b) cv -> R F B w ν' (.map c) cv:=fun ν' c e cv hr=>by
      simp only [R] at hr ⊢; rw [e]; exact hr
     simp only [canV]
     split
     · rename_i c hc
       exact same _ (mapR ν c (h.ren b c hc).2)
     · rename_i hc
       obtain ⟨n1,n2⟩:=h.new hc
       have hn:(fun c=>if c = c0.n then μ b else ν c) c0.n = μ b:=by simp
       have fin:∀ x:Bx,m.at b = some x -> (∀ ν' q,Zd2 F B w μ x q -> Zd2 F B w ν' x q) ->
         ∃ ν',CInv F B w μ m { ren:=(b,c0.n) :: c0.ren,m:=(c0.n,some x) :: c0.m,n:=c0.n + 1 } ν' /\ ν.sub ν' /\
           (∀ b' c,look c0.ren b' = some c -> look ((b,c0.n) :: c0.ren) b' = some c) /\ ∀ cv,R F B w μ (.map b) cv -> R F B w ν' (.map c0.n) cv:=fun x hx hbx=>by
        obtain ⟨q,e1,e2⟩:=hM.box b x hx
        refine ⟨_,n1.box (by rw [Zen,if_pos rfl]) hx e1 rfl (hbx _ q e2) (fun _ h=>h),n2,fun b' c e=>?_,mapR _ _ hn⟩
        rw [Zen,if_neg]; · exact e
        rintro rfl
        rw [hc] at e; cases e
       split
       · rename_i hx; exact fin _ hx (fun ν' q hb=>hb)
       · rename_i hx; exact fin _ hx (fun ν' q hb=>hb)
       · exact same _ und
   | it b =>
     have itR:∀ ν' c,(ν' c = μ b) -> ∀ cv,R F B w μ (.it b) cv -> R F B w ν' (.it c) cv:=fun ν' c e cv hr=>by
      simp only [R] at hr ⊢; rw [e]; exact hr
     simp only [canV]
     split
     · rename_i c hc
       exact same _ (itR ν c (h.ren b c hc).2)
     · rename_i hc
       obtain ⟨n1,n2⟩:=h.new hc
       have hn:(fun c=>if c = c0.n then μ b else ν c) c0.n = μ b:=by simp
       have fin:∀ x:Bx,m.at b = some x -> (∀ ν' q,Zd2 F B w μ x q -> Zd2 F B w ν' x q) ->
         ∃ ν',CInv F B w μ m { ren:=(b,c0.n) :: c0.ren,m:=(c0.n,some x) :: c0.m,n:=c0.n + 1 } ν' /\ ν.sub ν' /\
           (∀ b' c,look c0.ren b' = some c -> look ((b,c0.n) :: c0.ren) b' = some c) /\ ∀ cv,R F B w μ (.it b) cv -> R F B w ν' (.it c0.n) cv:=fun x hx hbx=>by
        obtain ⟨q,e1,e2⟩:=hM.box b x hx
        refine ⟨_,n1.box (by rw [Zen,if_pos rfl]) hx e1 rfl (hbx _ q e2) (fun _ h=>h),n2,fun b' c e=>?_,itR _ _ hn⟩
        rw [Zen,if_neg]; · exact e
        rintro rfl
        rw [hc] at e; cases e
       split
       · rename_i hx; exact fin _ hx (fun ν' q hb=>hb)
       · rename_i hx; exact fin _ hx (fun ν' q hb=>hb)
       · exact same _ und
   | ptr b off =>
     have ptrR:∀ ν' c,(ν' c = μ b) -> ∀ cv,R F B w μ (.ptr b off) cv -> R F B w ν' (.ptr c off) cv:=fun ν' c e cv hr=>by
      simp only [R] at hr ⊢; rw [e]; exact hr
     simp only [canV]
     split
     · rename_i c hc
       exact same _ (ptrR ν c (h.ren b c hc).2)
     · rename_i hc
       obtain ⟨n1,n2⟩:=h.new hc
       have hn:(fun c=>if c = c0.n then μ b else ν c) c0.n = μ b:=by simp
       split
       · rename_i cs hx
         obtain ⟨q,e1,ad,vs,e2,e3,e4,e5,e6⟩:=hM.box b _ hx
         obtain ⟨ν2,i2,s2,r2,k2⟩:=accMap_ok ih cs _ _ n1
         have hl:(Zga (canV m k) cs { ren:=(b,c0.n) :: c0.ren,m:=c0.m,n:=c0.n + 1 }).1.length = cs.length:=by
          rw [RL.len (k2 vs e4),RL.len e4]
         have hr:look (Zga (canV m k) cs { ren:=(b,c0.n) :: c0.ren,m:=c0.m,n:=c0.n + 1 }).2.ren b = some c0.n:=r2 b _ (by rw [Zen,if_pos rfl])
         refine ⟨ν2,i2.box hr hx e1 rfl ⟨ad,vs,e2,e3,k2 vs e4,e5,by rw [hl]; exact e6⟩ (fun _ _=>trivial),n2.trans s2,fun b' c e=>r2 b' c ?_,ptrR _ _ ((i2.ren b _ hr).2)⟩
         rw [Zen,if_neg]; · exact e
         rintro rfl
         rw [hc] at e; cases e
       · exact same _ und
theorem canT_ok (hM:Mem G w0 Ob A B F μ s.m w):∀ (l:List Nat) (c0:Acc) (ν:Mu),CInv F B w μ s.m c0 ν ->
  ∃ ν',CInv F B w μ s.m (canT s l c0).2 ν' /\ ν.sub ν' /\ ∀ t u,look (canT s l c0).1 t = some u -> ∀ cv,R F B w μ (s.get t) cv -> R F B w ν' u cv
 | [],c0,ν,h=>⟨ν,h,fun _ _ e=>e,fun t u e=>by cases e⟩
 | t :: l,c0,ν,h=>by
   obtain ⟨ν1,i1,s1,_,k1⟩:=canV_ok hM 4 (s.get t) c0 ν h
   obtain ⟨ν2,i2,s2,k2⟩:=canT_ok hM l _ ν1 i1
   refine ⟨ν2,i2,s1.trans s2,fun t' u e cv hr=>?_⟩
   simp only [canT] at e
   rw [Zen] at e
   split at e
   · rename_i e'; subst e'; cases e; exact (tr_mu s2).R (k1 cv hr)
   · exact k2 t' u e cv hr
theorem keepB_ok (hM:Mem G w0 Ob A B F μ m w):∀ (l:List Nat) (c0:Acc) (ν:Mu),CInv F B w μ m c0 ν -> (∀ i ∈ l,look c0.ren i = some i) ->
  ∃ ν',CInv F B w μ m (keepB m l c0) ν' /\ ν.sub ν'
 | [],c0,ν,h,_=>⟨ν,h,fun _ _ e=>e⟩
 | i :: l,c0,ν,h,hl=>by
   have hi:=hl i (by simp)
   have hl':∀ j ∈ l,look c0.ren j = some j:=fun j hj=>hl j (List.mem_cons_of_mem _ hj)
   simp only [keepB]
   split
   · rename_i cs hx
     obtain ⟨q,e1,ad,vs,e2,e3,e4,e5,e6⟩:=hM.box i _ hx
     obtain ⟨ν2,i2,s2,r2,k2⟩:=accMap_ok (canV_ok hM 4) cs c0 ν h
     have hlen:(Zga (canV m 4) cs c0).1.length = cs.length:=by rw [RL.len (k2 vs e4),RL.len e4]
     obtain ⟨ν3,i3,s3⟩:=keepB_ok hM l _ ν2 (i2.box (x':=.cs (Zga (canV m 4) cs c0).1) (r2 i i hi) hx e1 rfl ⟨ad,vs,e2,e3,k2 vs e4,e5,by rw [hlen]; exact e6⟩ (fun _ _=>trivial)) (fun j hj=>r2 j j (hl' j hj))
     exact ⟨ν3,i3,s2.trans s3⟩
   · rename_i τ r hx
     obtain ⟨q,e1,e2⟩:=hM.box i _ hx
     exact keepB_ok hM l _ ν (h.box hi hx e1 rfl e2 (fun _ h=>h)) hl'
   · rename_i τ r hx
     obtain ⟨q,e1,e2⟩:=hM.box i _ hx
     exact keepB_ok hM l _ ν (h.box hi hx e1 rfl e2 (fun _ h=>h)) hl'
   · rename_i τ r hx
     obtain ⟨q,e1,e2⟩:=hM.box i _ hx
     exact keepB_ok hM l _ ν (h.box hi hx e1 rfl e2 (fun _ h=>h)) hl'
   · exact keepB_ok hM l _ ν h hl'
theorem look_id {l:List Nat} {i c:Nat} (h:look (l.map fun i=>(i,i)) i = some c):i = c /\ i ∈ l:=by
 induction l with
 | nil=>cases h
 | cons j r ih =>
   simp only [List.map_cons,Zen] at h
   split at h
   · rename_i e; subst e; cases h; exact ⟨rfl,by simp⟩
   · exact ⟨(ih h).1,List.mem_cons_of_mem _ (ih h).2⟩
theorem look_mem {l:List Nat} {i:Nat} (h:i ∈ l):look (l.map fun i=>(i,i)) i = some i:=by
 induction l with
 | nil=>cases h
 | cons j r ih =>
   simp only [List.map_cons,Zen]
   split
   · rename_i e; rw [e]
   · rename_i e; exact ih ((List.mem_cons.1 h).resolve_left (fun e'=>e e'.symm))
theorem lt_bound {l:List Nat} {i:Nat} (h:i ∈ l):i < Zh2 l:=by
 induction l with
 | nil=>cases h
 | cons j r ih =>
   simp only [Zh2]
   rcases List.mem_cons.1 h with rfl | h
   · omega
   · have:=ih h; omega
theorem canon0_ok (hE:EnvC P E) {kp live:List Nat} (hkp:∀ i o,μ0 i = some o -> i ∈ kp) (h:Rel E w0 Ob A B N μ0 base s a w):Rel E w0 Ob A B N μ0 (canon0 kp live s).n (canon0 kp live s) a w:=by
 obtain ⟨F,μ,h⟩:=h
 have hM:=h.mem
 have i0:CInv F B w μ s.m { ren:=kp.map fun i=>(i,i),m:=[],n:=Zh2 kp } (fun c=>if c ∈ kp then μ c else none):=by
  refine ⟨fun b c e=>?_,fun c hc=>?_,fun c x e=>(by cases e),fun b b' c e e'=>?_⟩
  · obtain ⟨rfl,hm⟩:=look_id e
    exact ⟨lt_bound hm,if_pos hm⟩
  · refine if_neg (fun hm=>?_)
    have:=lt_bound hm
    have hc':Zh2 kp <= c:=hc
    omega
  · rw [(look_id e).1,(look_id e').1]
 obtain ⟨ν1,i1,s1⟩:=keepB_ok hM kp _ _ i0 (fun i hi=>look_mem hi)
 obtain ⟨ν,i,s2,k⟩:=canT_ok hM live _ _ i1
 refine ⟨F,ν,⟨hM.ext,fun c x' hx=>?_,fun c x' q ad hx hz hq ha=>?_,fun c c' x x' q q' ad ad' hx hx' hz hz' hq hq' ha ha' he=>?_,hM.fz,hM.bz,⟨fun g cs hg=>?_,hM.glob.2⟩,?_⟩,fun t=>?_,h.size,h.defers,i.dom,fun b o e=>?_⟩
 · obtain ⟨b,x,q,h1,h2,h3,h4,h5,_⟩:=i.heap c x' hx
   exact ⟨q,by rw [(i.ren b c h1).2]; exact h3,h5⟩
 · obtain ⟨b,x,q',h1,h2,h3,h4,h5,_⟩:=i.heap c x' hx
   rw [(i.ren b c h1).2,h3] at hq; cases hq
   exact hM.own b x q ad h2 (h4 ▸ hz) h3 ha
 · obtain ⟨b,y,p,h1,h2,h3,h4,h5,_⟩:=i.heap c x hx
   obtain ⟨b',y',p',k1,k2,k3,k4,k5,_⟩:=i.heap c' x' hx'
   rw [(i.ren b c h1).2,h3] at hq; cases hq
   rw [(i.ren b' c' k1).2,k3] at hq'; cases hq'
   have:=hM.inj b b' y y' q q' ad ad' h2 k2 (h4 ▸ hz) (k4 ▸ hz') h3 k3 ha ha' he
   subst this
   rw [h1] at k1; cases k1; rfl
 · have:=hM.glob.1 g cs hg
   simp only [R] at this ⊢
   obtain ⟨ad,vs,e1,e2,e3,e4,e5⟩:=this
   exact ⟨ad,vs,e1,e2,e3,Zhh (fun _ x=>x) (Zd3 _ _) (hE.glb g cs hg) e4,e5⟩
 · obtain ⟨ν0,hd⟩:=hM.deep
   refine ⟨fun c k=>∃ b x,look (canT s live (keepB s.m kp { ren:=kp.map fun i=>(i,i),m:=[],n:=Zh2 kp })).2.ren b = some c /\ s.m.at b = some x /\ ν0 b k,⟨fun c x' q hx hq=>?_,fun c x' k hx ⟨b,x,e1,e2,e3⟩=>hd.own b x k e2 e3,fun c x' k c2 x2 q ad hx ⟨b,x,e1,e2,e3⟩ hx2 hz hq ha=>?_,fun c c2 x1 x2 k hx hx2 ⟨b,x,e1,e2,e3⟩ ⟨b',y,f1,f2,f3⟩=>?_⟩⟩
   · obtain ⟨b,x,p,h1,h2,h3,h4,h5,h6⟩:=i.heap c x' hx
     rw [(i.ren b c h1).2,h3] at hq; cases hq
     have e:(fun k=>∃ b x,look (canT s live (keepB s.m kp { ren:=kp.map fun i=>(i,i),m:=[],n:=Zh2 kp })).2.ren b = some c /\ s.m.at b = some x /\ ν0 b k) = ν0 b:=by
      funext k
      refine propext ⟨fun ⟨b',x',e1,e2,e3⟩=>?_,fun h=>⟨b,x,h1,h2,h⟩⟩
      rw [i.inj b b' c h1 e1]; exact e3
     rw [e]
     exact h6 _ (hd.nest b x q h2 h3)
   · obtain ⟨b',y,p,h1,h2,h3,h4,h5,_⟩:=i.heap c2 x2 hx2
     rw [(i.ren b' c2 h1).2,h3] at hq; cases hq
     exact hd.apart b x k b' y q ad e2 e3 h2 (h4 ▸ hz) h3 ha
   · have:=hd.inj b b' x y k e2 f2 e3 f3
     subst this
     rw [e1] at f1; cases f1; rfl
 · have hg:(canon0 kp live s).get t = match look (canT s live (keepB s.m kp { ren:=kp.map fun i=>(i,i),m:=[],n:=Zh2 kp })).1 t with | some v=>v | none=>.undef:=rfl
   rw [hg]
   cases e:look (canT s live (keepB s.m kp { ren:=kp.map fun i=>(i,i),m:=[],n:=Zh2 kp })).1 t with
   | none=>simp only [R]
   | some u=>exact k t u e _ (h.tmps t)
 · obtain ⟨o',e1,e2⟩:=h.keep b o e
   exact ⟨o',s2 b o' (s1 b o' (by show (if _ then _ else _) = _; rw [if_pos (hkp b o e)]; exact e1)),e2⟩
theorem canon_ok (hE:EnvC P E) {kp live:List Nat} (hkp:∀ i o,μ0 i = some o -> i ∈ kp) (h:Rel E w0 Ob A B N μ0 base s a w):Rel E w0 Ob A B N μ0 (canon kp live s).n (canon kp live s) a w:=by
 obtain ⟨F,μ,h⟩:=h
 exact canon0_ok hE hkp (base:=base) (s:={ s with m:=unfAll s.m }) ⟨F,μ,⟨h.mem.unfAll,h.tmps,h.size,h.defers,h.free,h.keep⟩⟩
theorem canAt_ok (hE:EnvC P E) {kp:List Nat} (hkp:∀ i o,μ0 i = some o -> i ∈ kp) {tab:List (Nat × List Nat)} {c:Code} (h:Rel E w0 Ob A B N μ0 s.n s a w):Rel E w0 Ob A B N μ0 (canAt kp tab c s).n (canAt kp tab c s) a w:=by
 unfold canAt
 split
 · split
   · exact canon_ok hE hkp h
   · exact h
 · exact h
end
end Go.E
namespace Go.E
open Go Go.RowKit
section
variable {E:Env} {ρ:Type} {s s2:St}
theorem map_congrL {l:List Operand} (h:∀ x ∈ l,opnd E s2 x = opnd E s x):l.map (opnd E s2) = l.map (opnd E s):=List.map_congr_left h
theorem parts_congr {l:List (Nat × Operand)} (h:∀ x ∈ l.map (·.2),opnd E s2 x = opnd E s x):Ze9 E s2 l = Ze9 E s l :=
 List.map_congr_left fun p hp=>by rw [h p.2 (List.mem_map_of_mem hp)]
set_option maxHeartbeats 1000000 in
theorem opK_congr {o:Op} (h:∀ x ∈ o.operands.toList,opnd E s2 x = opnd E s x) (hm:s2.m = s.m) (base:Nat) (K:V -> Hp -> Option ρ):opK E o base s2 K = opK E o base s K:=by
 cases o with
 | build t ps=>simp only [opK,hm,parts_congr (E:=E) (s:=s) (s2:=s2) (l:=ps.toList) (fun x hx=>h x (by simpa [Op.operands] using hx))]
 | buildSlice t n ps=>simp only [opK,hm,parts_congr (E:=E) (s:=s) (s2:=s2) (l:=ps.toList) (fun x hx=>h x (by simpa [Op.operands] using hx))]
 | makeFunc fn a b =>
   cases fn with
   | func f=>simp only [opK,hm,map_congrL (E:=E) (s:=s) (s2:=s2) (l:=b.toList) (fun x hx=>h x (by simp [Op.operands]; right; simpa using hx))]
   | _=>rfl
 | call c =>
   have ha:=map_congrL (E:=E) (s:=s) (s2:=s2) (l:=c.args.toList) (fun x hx=>h x (by simp [Op.operands,Call.operands]; right; simpa using hx))
   simp only [opK]
   cases hc:c.callee with
   | builtin b=>simp only [ha,hm]
   | value f =>
     have hf:=h f (by simp [Op.operands,Call.operands,hc])
     simp only [ha,hm,hf]
   | invoke r n=>rfl
 | slice t x lo hi mx =>
   cases mx with
   | some _=>rfl
   | none =>
     have hx:=h x (by simp [Op.operands])
     have hl:∀ d (K:Int -> Option ρ),wOI E s2 lo d K = wOI E s lo d K:=fun d K=>by
      cases lo with
      | none=>rfl
      | some y=>simp only [wOI,h y (by simp [Op.operands])]
     have hh:∀ d (K:Int -> Option ρ),wOI E s2 hi d K = wOI E s hi d K:=fun d K=>by
      cases hi with
      | none=>rfl
      | some y=>simp only [wOI,h y (by simp [Op.operands])]
     simp only [opK,hx,hm,hl,hh]
 | move x=>have h1:=h x (by simp [Op.operands]); simp only [opK,h1,hm]
 | assign x=>have h1:=h x (by simp [Op.operands]); simp only [opK,h1,hm]
 | pick c x y=>have h1:=h c (by simp [Op.operands]); have h2:=h x (by simp [Op.operands]); have h3:=h y (by simp [Op.operands]); simp only [opK,h1,h2,h3,hm]
 | alloc t=>simp only [opK,hm]
 | box t x=>have h1:=h x (by simp [Op.operands]); simp only [opK,h1,hm]
 | load t x=>have h1:=h x (by simp [Op.operands]); simp only [opK,h1,hm]
 | store t x y=>have h1:=h x (by simp [Op.operands]); have h2:=h y (by simp [Op.operands]); simp only [opK,h1,h2,hm]
 | nilCheck x=>have h1:=h x (by simp [Op.operands]); simp only [opK,h1,hm]
 | binOp op t x y u=>have h1:=h x (by simp [Op.operands]); have h2:=h y (by simp [Op.operands]); simp only [opK,h1,h2,hm]
 | unOp op t x=>have h1:=h x (by simp [Op.operands]); simp only [opK,h1,hm]
 | convert t u x=>have h1:=h x (by simp [Op.operands]); simp only [opK,h1,hm]
 | fieldAddr t x i=>have h1:=h x (by simp [Op.operands]); simp only [opK,h1,hm]
 | field t x i=>have h1:=h x (by simp [Op.operands]); simp only [opK,h1,hm]
 | indexAddr t x y=>have h1:=h x (by simp [Op.operands]); have h2:=h y (by simp [Op.operands]); simp only [opK,h1,h2,hm]
 | index t x y=>have h1:=h x (by simp [Op.operands]); have h2:=h y (by simp [Op.operands]); simp only [opK,h1,h2,hm]
 | makeSlice t x y=>have h1:=h x (by simp [Op.operands]); have h2:=h y (by simp [Op.operands]); simp only [opK,h1,h2,hm]
 | extract x i=>have h1:=h x (by simp [Op.operands]); simp only [opK,h1,hm]
 | makeMap t x=>simp only [opK,hm]
 | lookup t x i ok=>have h1:=h x (by simp [Op.operands]); have h2:=h i (by simp [Op.operands]); simp only [opK,h1,h2,hm]
 | mapUpdate t x i y=>have h1:=h x (by simp [Op.operands]); have h2:=h i (by simp [Op.operands]); have h3:=h y (by simp [Op.operands]); simp only [opK,h1,h2,h3,hm]
 | range t x=>have h1:=h x (by simp [Op.operands]); simp only [opK,h1,hm]
 | entry x=>have h1:=h x (by simp [Op.operands]); simp only [opK,h1,hm]
 | _=>rfl
theorem opF_congr {o:Op} (h:∀ x ∈ o.operands.toList,opnd E s2 x = opnd E s x) (hm:s2.m = s.m) (base:Nat):opF E o base s2 = opF E o base s:=opK_congr h hm base _
end
def Suf (m m':Hp):Prop:=∃ p,m' = p ++ m
theorem Suf.refl (m:Hp):Suf m m:=⟨[],rfl⟩
theorem Suf.cons {m m':Hp} (x:Nat × Option Bx) (h:Suf m m'):Suf m (x :: m'):=by obtain ⟨p,rfl⟩:=h; exact ⟨x :: p,rfl⟩
theorem Suf.trans {m m' m'':Hp} (h:Suf m m') (k:Suf m' m''):Suf m m'':=by obtain ⟨p,rfl⟩:=h; obtain ⟨q,rfl⟩:=k; exact ⟨q ++ p,by simp⟩
theorem suf_frz1 (m:Hp) (v:V):Suf m (frz1 m v):=by
 cases v <;> simp only [frz1] <;> first | exact Suf.refl _ | skip
 split
 · exact (Suf.refl _).cons _
 · exact (Suf.refl _).cons _
 · exact Suf.refl _
theorem suf_frzL:∀ (l:List V) (m:Hp),Suf m (l.foldl frz1 m)
 | [],m=>Suf.refl _
 | v :: l,m=>(suf_frz1 m v).trans (suf_frzL l _)
theorem suf_frz (m:Hp) (v:V):Suf m (frz m v):=by cases v <;> simp only [frz] <;> first | exact suf_frz1 _ _ | exact suf_frzL _ _
theorem suf_frzF:∀ (l:List V) (m:Hp),Suf m (l.foldl frz m)
 | [],m=>Suf.refl _
 | v :: l,m=>(suf_frz m v).trans (suf_frzF l _)
theorem suf_but (outs:List (Nat × Bx)) (mvs:List Nat) (args:List V) (m:Hp):Suf m (frzBut outs mvs args m):=by
 unfold frzBut
 generalize args.zipIdx = l
 induction l generalizing m with
 | nil=>exact Suf.refl _
 | cons q l ih =>
   simp only [List.foldl_cons]
   refine Suf.trans ?_ (ih _)
   split
   · exact Suf.refl _
   · exact suf_frz _ _
theorem suf_kill (args:List V):∀ (mvs:List Nat) (m:Hp),Suf m (killMv mvs args m)
 | [],m=>Suf.refl _
 | i :: r,m=>by
   have e:killMv (i :: r) args m = killMv r args (match args[i]? with | some (.arr b)=>(b,none) :: m | _=>m):=rfl
   rw [e]
   refine Suf.trans ?_ (suf_kill args r _)
   split
   · exact (Suf.refl _).cons _
   · exact Suf.refl _
theorem suf_outs {offs:List (Nat × Nat)} {args:List V}:∀ (outs:List (Nat × Bx)) (used:List Nat) (m m1:Hp),outsH args offs used outs m = some m1 -> Suf m m1
 | [],used,m,m1,h=>by simp only [outsH,Option.some.injEq] at h; subst h; exact Suf.refl _
 | (i,x) :: r,used,m,m1,h=>by
   simp only [outsH] at h
   split at h
   · split at h
     · split at h
       · cases h
       split at h
       · split at h
         · exact ((Suf.refl _).cons _).trans (suf_outs r _ _ _ h)
         · cases h
       · cases h
     · split at h
       · cases h
       split at h
       · split at h
         · exact ((Suf.refl _).cons _).trans (suf_outs r _ _ _ h)
         · cases h
       · cases h
     · cases h
   · split at h
     · split at h
       · split at h
         · cases h
         split at h
         · split at h
           · split at h
             · exact ((Suf.refl _).cons _).trans (suf_outs r _ _ _ h)
             · cases h
           · cases h
         · cases h
       · cases h
     · cases h
theorem suf_add:∀ (bs:List Bx) (base k:Nat) (m:Hp),Suf m (Zip base k bs m)
 | [],_,_,_=>Suf.refl _
 | b :: bs,base,k,m=>((Suf.refl _).cons _).trans (suf_add bs base (k + 1) _)
theorem suf_down1 (m:Hp) (v:V):Suf m (down1 m v):=by
 unfold down1
 split
 · split
   · exact (Suf.refl _).cons _
   · exact Suf.refl _
 · exact Suf.refl _
theorem suf_downL:∀ (l:List V) (m:Hp),Suf m (l.foldl down1 m)
 | [],m=>Suf.refl _
 | v :: l,m=>(suf_down1 m v).trans (suf_downL l _)
theorem suf_downs (dn:List Nat) (g:Nat) (args:List V) (m:Hp):Suf m (downs dn g args m):=by
 unfold downs
 split
 · exact suf_downL _ _
 · exact Suf.refl _
theorem suf_unf1 (m:Hp) (b:Nat):Suf m (unf1 m b):=by
 unfold unf1
 split
 · split
   · exact Suf.refl _
   · split
     · split
       · exact Suf.refl _
       · split
         · exact ((Suf.refl _).cons _).cons _
         · exact Suf.refl _
     · split
       · exact ((Suf.refl _).cons _).cons _
       · exact Suf.refl _
     · exact Suf.refl _
 · exact Suf.refl _
theorem suf_unfV (m:Hp) (v:V):Suf m (unfV m v):=by cases v <;> simp only [unfV] <;> first | exact suf_unf1 _ _ | exact Suf.refl _
theorem suf_killL:∀ (bs:List Nat) (m:Hp),Suf m (bs.foldl (fun (m:Hp) b=>(b,none) :: m) m)
 | [],m=>Suf.refl _
 | b :: bs,m=>((Suf.refl _).cons _).trans (suf_killL bs _)
theorem suf_takeD {α:Type} {τ:Ty} {v:V} {m:Hp} {K:List (D τ) -> Hp -> Option α} {r:α} (h:takeD τ v m K = some r):∃ l m2,K l m2 = some r /\ Suf m m2:=by
 unfold takeD at h
 split at h
 · split at h
   · split at h
     · exact ⟨_,_,h,(Suf.refl _).cons _⟩
     · cases h
   · cases h
 · split at h
   · split at h
     · exact ⟨_,_,(Zc4 h).2,(Suf.refl _).cons _⟩
     · cases h
   · split at h
     · exact ⟨_,_,(Zc4 h).2,(Suf.refl _).cons _⟩
     · cases h
   · cases h
 · cases h
theorem suf_appendD {l:TL} {x y:V} {base:Nat} {m m':Hp} {v:V} (h:Zih l x y base m (fun v m=>some (v,m)) = some (v,m')):Suf m m':=by
 unfold Zih at h
 split at h
 · obtain ⟨r,m2,h,hs⟩:=suf_takeD h
   have hu:=(suf_unfV m x).trans (suf_unfV _ y)
   split at h
   · obtain ⟨_,rfl⟩:=Zbp (Zc4 h).2
     exact (hu.trans hs).cons _
   · split at h
     · split at h
       · obtain ⟨_,rfl⟩:=Zbp (Zc4 h).2
         exact ((hu.trans hs).cons _).cons _
       · cases h
     · cases h
   · cases h
 · cases h
theorem suf_lookupK {lk le:TL} {mv kv:V} {base:Nat} {m m':Hp} {v:V} (h:lookupK lk le mv kv base m (fun v m=>some (v,m)) = some (v,m')):Suf m m':=by
 unfold lookupK at h
 split at h
 · split at h
   · split at h
     · split at h
       · split at h
         · obtain ⟨_,rfl⟩:=Zbp h; exact ((Suf.refl _).cons _).cons _
         · cases h
       · split at h
         · obtain ⟨_,_,h⟩:=Zgj h
           obtain ⟨_,rfl⟩:=Zbp h; exact Suf.refl _
         · cases h
     · cases h
   · cases h
 · cases h
theorem suf_updK {lk le:TL} {mv kv y:V} {m m':Hp} {v:V} (h:updK lk le mv kv y m (fun v m=>some (v,m)) = some (v,m')):Suf m m':=by
 unfold updK at h
 split at h
 · split at h
   · split at h
     · split at h
       · split at h
         · split at h
           · split at h
             · cases h
             · obtain ⟨_,rfl⟩:=Zbp (Zc4 h).2; exact ((suf_unf1 _ _).cons _).cons _
           · cases h
         · cases h
       · cases h
     · cases h
   · split at h
     · split at h
       · split at h
         · obtain ⟨_,rfl⟩:=Zbp h; exact (Suf.refl _).cons _
         · cases h
       · cases h
     · cases h
 · cases h
theorem touched_ok {m m':Hp} (h:Suf m m') {b:Nat} (hb:(Zh4 m m').contains b = false):m'.at b = m.at b:=by
 obtain ⟨p,rfl⟩:=h
 have e:Zh4 m (p ++ m) = p.map (·.1):=by simp [Zh4]
 rw [e] at hb
 induction p with
 | nil=>rfl
 | cons x p ih =>
   simp only [List.map_cons,List.contains_cons,Bool.or_eq_false_iff] at hb
   rw [List.cons_append]
   obtain ⟨c,o⟩:=x
   rw [Hp.at_cons,if_neg (by intro e; subst e; simp at hb),ih hb.2 (by simp [Zh4])]
end Go.E
namespace Go.E
open Go Go.RowKit
def passive:Op -> Bool
 | .move _=>true
 | .assign _=>true
 | .pick _ _ _=>true
 | .build _ _=>true
 | .nilCheck _=>true
 | .binOp _ _ _ _ _=>true
 | .unOp _ _ _=>true
 | .fieldAddr _ _ _=>true
 | .field _ _ _=>true
 | .index _ _ _=>true
 | .extract _ _=>true
 | .makeFunc _ _ _=>true
 | .indexAddr _ _ _=>true
 | .call c=>match c.callee with
   | .builtin .len=>true
   | .builtin .min=>true
   | .builtin .max=>true
   | _=>false
 | _=>false
section
variable {E:Env} {ρ:Type} {s s2:St}
theorem names_at {m2:Hp} {o:Op} (ho:readsM o = true) (h:∀ b ∈ Zf4 E s o,m2.at b = s.m.at b) {x:Operand} (hx:x ∈ o.operands.toList) {b:Nat} (hb:b ∈ Zgv (opnd E s x)):m2.at b = s.m.at b :=
 h b (by unfold Zf4; rw [if_pos ho]; exact List.mem_flatMap.2 ⟨x,hx,hb⟩)
theorem bi_min {m1:Hp} (ts:List Nat) (xs:List V) (m2:Hp) (b1 b2:Nat) (K:V -> Hp -> Option ρ):Zea E .min ts xs b2 m2 K = Zea E .min ts xs b1 m1 (fun v _=>K v m2):=by
 unfold Zea
 split <;> simp_all
theorem bi_max {m1:Hp} (ts:List Nat) (xs:List V) (m2:Hp) (b1 b2:Nat) (K:V -> Hp -> Option ρ):Zea E .max ts xs b2 m2 K = Zea E .max ts xs b1 m1 (fun v _=>K v m2):=by
 unfold Zea
 split <;> simp_all
theorem bi_len {m1:Hp} (ts:List Nat) (xs:List V) {m2:Hp} (hx:∀ x,xs = [x] -> ∀ b ∈ Zgv x,m2.at b = m1.at b) (b1 b2:Nat) (K:V -> Hp -> Option ρ):Zea E .len ts xs b2 m2 K = Zea E .len ts xs b1 m1 (fun v _=>K v m2):=by
 cases ts with
 | nil=>simp [Zea]
 | cons t ts =>
   match xs,hx with
   | [],_=>simp [Zea]
   | [x],hx =>
     simp only [Zea]
     cases x with
     | arr b=>simp only [hx (.arr b) rfl b (by simp [Zgv])]
     | val τ y=>cases τ <;> rfl
     | _=>rfl
   | _ :: _ :: _,_=>simp [Zea]
theorem opK_read {o:Op} (hp:passive o = true) (m2:Hp) (h:∀ b ∈ Zf4 E s o,m2.at b = s.m.at b) (b1 b2:Nat) (K:V -> Hp -> Option ρ) :
  opK E o b2 { s with m:=m2 } K = opK E o b1 s (fun v _=>K v m2):=by
 cases o <;> simp only [passive] at hp <;> first | (cases hp; done) | skip
 case indexAddr t x i =>
  have hx:∀ {b},b ∈ Zgv (opnd E s x) -> m2.at b = s.m.at b:=fun hb=>names_at rfl h (by simp [Op.operands]) hb
  have e:opnd E { s with m:=m2 } x = opnd E s x:=by cases x <;> rfl
  have e2:opnd E { s with m:=m2 } i = opnd E s i:=by cases i <;> rfl
  simp only [opK,e,e2]
  cases he:opnd E s x with
  | arr b=>rw [he] at hx; simp only [hx (b:=b) (by simp [Zgv])]
  | val τ y=>cases τ <;> rfl
  | _=>rfl
 case call c =>
  have e:c.args.toList.map (opnd E { s with m:=m2 }) = c.args.toList.map (opnd E s):=List.map_congr_left fun x _=>by cases x <;> rfl
  split at hp
  · rename_i hc
    simp only [opK,hc,e]
    have hx:∀ {x b},c.args.toList.map (opnd E s) = [x] -> b ∈ Zgv x -> m2.at b = s.m.at b:=fun {x b} hl hb=>by
     obtain ⟨p,hp,rfl⟩:=list_one hl
     exact names_at rfl h (by simp [Op.operands,Call.operands,hc,hp]) hb
    generalize c.args.toList.map (opnd E s) = xs at hx
    exact bi_len _ _ (fun x e b hb=>hx e hb) _ _ _
  · rename_i hc
    simp only [opK,hc,e]
    exact bi_min _ _ _ _ _ _
  · rename_i hc
    simp only [opK,hc,e]
    exact bi_max _ _ _ _ _ _
  · cases hp
 case makeFunc fn a b=>cases fn <;> rfl
 all_goals rfl
end
section
variable {P:Program} {E:Env} {s s2:St} {v:V} {m':Hp}
theorem passive_m (hE:E.ok) {o:Op} (hp:passive o = true) {b:Nat} (hf:opF E o b s = some (v,m')):m' = s.m:=by
 have e:=opK_read (E:=E) (s:=s) hp s.m (fun _ _=>rfl) b b (fun v m=>some (v,m))
 have e1:opF E o b s = opK E o b s (fun v _=>some (v,s.m)):=e
 rw [opK_eq hE,hf] at e1
 simp at e1; exact e1
theorem passive_local (hE:E.ok) {o:Op} (hp:passive o = true) {b:Nat} (hf:opF E o b s = some (v,m')) (b2:Nat) (ho:∀ x ∈ o.operands.toList,opnd E s2 x = opnd E s x) (hn:∀ b ∈ Zf4 E s o,s2.m.at b = s.m.at b) :
  opF E o b2 s2 = some (v,s2.m):=by
 have e1:opF E o b2 s2 = opF E o b2 { s with m:=s2.m }:=opF_congr (E:=E) (s2:=s2) (s:={ s with m:=s2.m }) (fun x hx=>by rw [ho x hx]; cases x <;> rfl) rfl b2
 rw [e1]
 have e2:=opK_read (E:=E) (s:=s) hp s2.m hn b b2 (fun v m=>some (v,m))
 rw [opK_eq hE o b s,hf] at e2
 exact e2
theorem suf_op (hE:EnvC P E) {o:Op} {b:Nat} (hf:opF E o b s = some (v,m')):Suf s.m m':=by
 cases hp:passive o with
 | true=>rw [passive_m hE.ok.nat hp hf]; exact Suf.refl _
 | false =>
   cases o <;> simp only [passive] at hp <;> first | (cases hp; done) | skip
   case alloc t =>
    simp only [opF,opK] at hf
    obtain ⟨l,_,hf⟩:=Zdy hf
    obtain ⟨rfl,rfl⟩:=Zbp hf
    exact (Suf.refl _).cons _
   case box t x =>
    simp only [opF,opK] at hf
    obtain ⟨l,_,hf⟩:=Zdy hf
    split at hf
    · obtain ⟨rfl,rfl⟩:=Zbp hf
      exact (Suf.refl _).cons _
    · cases hf
   case buildSlice t n ps =>
    simp only [opF,opK] at hf
    obtain ⟨_,_,l,_,_,_,hf⟩:=Zg0 hf
    split at hf
    · cases hf
    obtain ⟨z,_,hf⟩:=Zgj hf
    split at hf
    · split at hf
      · obtain ⟨rfl,rfl⟩:=Zbp hf
        exact (suf_frzF _ _).cons _
      · split at hf
        · obtain ⟨rfl,rfl⟩:=Zbp hf
          exact (suf_killL _ _).cons _
        · cases hf
    · cases hf
   case load t x =>
    simp only [opF,opK] at hf
    obtain ⟨l,_,hf⟩:=Zdy hf
    have cel:∀ {cs:List V} {off:Nat},cellK l cs off s.m (fun v m=>some (v,m)) = some (v,m') -> Suf s.m m':=fun h=>by
     rcases cellK_some h with ⟨_,_,h⟩ | ⟨_,_,_,h⟩ <;> (obtain ⟨_,rfl⟩:=Zbp h; exact Suf.refl _)
    have lrp:∀ {τ:Ty} {x:D τ} {off:Nat},Zgx τ x off l s.m (fun v m=>some (v,m)) = some (v,m') -> Suf s.m m':=fun h=>by
     unfold Zgx at h
     split at h
     · obtain ⟨_,rfl⟩:=Zbp h; exact Suf.refl _
     · cases h
    split at hf
    · split at hf
      · exact cel hf
      · cases hf
    · exact cel hf
    · exact lrp hf
    · split at hf
      · obtain ⟨_,_,hf⟩:=Zd0 hf; exact lrp hf
      · obtain ⟨_,_,hf⟩:=Zd0 hf; exact lrp hf
      · split at hf
        · obtain ⟨_,_,hf⟩:=Zd0 hf
          split at hf
          · obtain ⟨_,rfl⟩:=Zbp hf; exact ((Suf.refl _).cons _).cons _
          · cases hf
        · split at hf
          · obtain ⟨_,_,hf⟩:=Zd0 hf; exact lrp hf
          · cases hf
      · split at hf
        · split at hf
          · obtain ⟨_,rfl⟩:=Zbp (Zc4 hf).2; exact Suf.refl _
          · cases hf
        · cases hf
      · cases hf
    · cases hf
   case store t x y =>
    simp only [opF,opK] at hf
    obtain ⟨l,_,hf⟩:=Zdy hf
    split at hf
    · split at hf
      · split at hf
        · obtain ⟨rfl,rfl⟩:=Zbp hf
          exact (Suf.refl _).cons _
        · cases hf
      · cases hf
    · split at hf
      · split at hf
        · split at hf
          · cases hf
          obtain ⟨z,_,hf⟩:=Zd0 hf
          split at hf
          · obtain ⟨rfl,rfl⟩:=Zbp hf
            exact (suf_frz _ _).cons _
          · cases hf
        · cases hf
      · split at hf
        · split at hf
          · split at hf
            · obtain ⟨_,rfl⟩:=Zbp (Zc4 hf).2; exact (Suf.refl _).cons _
            · cases hf
          · cases hf
        · cases hf
      · cases hf
    · cases hf
   case convert t u x =>
    simp only [opF,opK] at hf
    obtain ⟨ls,_,hf⟩:=Zdy hf
    obtain ⟨l,_,hf⟩:=Zdy hf
    split at hf
    · split at hf
      · obtain ⟨rfl,rfl⟩:=Zbp hf; exact Suf.refl _
      · cases hf
    · obtain ⟨le,_,hf⟩:=Zdy hf
      split at hf
      · split at hf
        · obtain ⟨rfl,rfl⟩:=Zbp hf; exact (Suf.refl _).cons _
        · cases hf
      · cases hf
    · split at hf
      · obtain ⟨le,_,hf⟩:=Zdy hf
        split at hf
        · split at hf
          · obtain ⟨rfl,rfl⟩:=Zbp hf; exact Suf.refl _
          · cases hf
        · cases hf
      · cases hf
    · cases hf
   case slice t x lo hi mx =>
    cases mx with
    | some _=>simp [opF,opK] at hf
    | none =>
      simp only [opF,opK] at hf
      obtain ⟨l,_,hf⟩:=Zdy hf
      have wo:∀ {y:Option Operand} {d:Int} {K:Int -> Option (V × Hp)},wOI E s y d K = some (v,m') -> ∃ n,K n = some (v,m'):=fun {y d K} h=>by
       unfold wOI at h
       split at h
       · obtain ⟨k,n,_,h⟩:=Zfl h; exact ⟨n,h⟩
       · exact ⟨d,h⟩
      split at hf
      · split at hf
        · obtain ⟨_,hf⟩:=wo hf
          obtain ⟨_,hf⟩:=wo hf
          obtain ⟨_,hf⟩:=Zc4 hf
          obtain ⟨rfl,rfl⟩:=Zbp hf; exact Suf.refl _
        · cases hf
      · obtain ⟨le,_,hf⟩:=Zdy hf
        split at hf
        · obtain ⟨_,hf⟩:=wo hf
          obtain ⟨_,hf⟩:=wo hf
          obtain ⟨_,hf⟩:=Zc4 hf
          obtain ⟨rfl,rfl⟩:=Zbp hf; exact suf_frz _ _
        · split at hf
          · split at hf
            · split at hf
              · obtain ⟨_,hf⟩:=wo hf
                obtain ⟨_,hf⟩:=wo hf
                obtain ⟨_,hf⟩:=Zc4 hf
                obtain ⟨rfl,rfl⟩:=Zbp hf; exact Suf.refl _
              · cases hf
            · split at hf
              · obtain ⟨_,hf⟩:=wo hf
                obtain ⟨_,hf⟩:=wo hf
                obtain ⟨_,hf⟩:=Zc4 hf
                obtain ⟨rfl,rfl⟩:=Zbp hf; exact Suf.refl _
              · cases hf
            · cases hf
          · cases hf
      · cases hf
   case makeSlice t x y =>
    simp only [opF,opK] at hf
    obtain ⟨_,_,l,_,_,_,hf⟩:=Zg0 hf
    obtain ⟨z,_,hf⟩:=Zgj hf
    obtain ⟨_,n,_,hf⟩:=Zfl hf
    obtain ⟨_,k,_,hf⟩:=Zfl hf
    obtain ⟨_,hf⟩:=Zc4 hf
    obtain ⟨_,hf⟩:=Zc4 hf
    obtain ⟨rfl,rfl⟩:=Zbp hf; exact (Suf.refl _).cons _
   case makeMap t x =>
    simp only [opF,opK] at hf
    split at hf
    · obtain ⟨_,_,_,_,_,_,_,_,_,_,_,hf⟩:=wM_some hf
      obtain ⟨_,rfl⟩:=Zbp hf; exact (Suf.refl _).cons _
    · cases hf
   case lookup t x i ok =>
    simp only [opF,opK] at hf
    split at hf
    · obtain ⟨_,_,_,_,_,_,_,_,_,_,_,hf⟩:=wM_some hf
      exact suf_lookupK hf
    · cases hf
   case mapUpdate t x i y =>
    simp only [opF,opK] at hf
    obtain ⟨_,_,_,_,_,_,_,_,_,_,_,hf⟩:=wM_some hf
    exact suf_updK hf
   case range t x =>
    simp only [opF,opK] at hf
    obtain ⟨_,_,_,_,_,_,_,_,_,_,_,hf⟩:=wM_some hf
    split at hf
    · split at hf
      · obtain ⟨_,rfl⟩:=Zbp hf; exact ((Suf.refl _).cons _).cons _
      · cases hf
    · cases hf
   case entry x =>
    simp only [opF,opK] at hf
    split at hf
    · split at hf
      · split at hf
        · cases hf
        · split at hf
          · obtain ⟨_,rfl⟩:=Zbp hf; exact ((Suf.refl _).cons _).cons _
          · split at hf
            · obtain ⟨_,rfl⟩:=Zbp hf; exact (Suf.refl _).cons _
            · cases hf
      · cases hf
    · cases hf
   case call c =>
    simp only [opF,opK] at hf
    split at hf
    · rename_i bi hc
      rw [hc] at hp
      obtain ⟨xs,hx⟩:∃ xs,c.args.toList.map (opnd E s) = xs:=⟨_,rfl⟩
      obtain ⟨ts,hts⟩:∃ ts,c.argTypes.toList = ts:=⟨_,rfl⟩
      rw [hx,hts] at hf
      unfold Zea at hf
      split at hf
      · cases hp
      · obtain ⟨_,_,l,_,_,_,hf⟩:=Zg0 hf
        obtain ⟨_,_,l2,_,_,_,hf⟩:=Zg0 hf
        split at hf
        · split at hf
          · obtain ⟨_,hf⟩:=Zc4 hf
            obtain ⟨rfl,rfl⟩:=Zbp hf; exact (Suf.refl _).cons _
          · split at hf
            · split at hf
              · obtain ⟨_,hf⟩:=Zc4 hf
                obtain ⟨rfl,rfl⟩:=Zbp hf; exact ((Suf.refl _).cons _).cons _
              · cases hf
            · cases hf
          · cases hf
        · exact suf_appendD hf
      · cases hp
      · cases hp
      · cases hp
      · cases hf
    · split at hf
      · rename_i gg caps hgg
        unfold callK at hf
        split at hf
        · rename_i c' hc'
          obtain ⟨avs,res,_,_,hK⟩:=hE.ctr _ c' hc' _ _ _ _ hf
          split at hK
          · split at hK
            · rename_i m2 ho
              obtain ⟨rfl,rfl⟩:=Zbp hK
              refine (suf_downs E.dn gg (c.args.toList.map (opnd E s)) s.m).trans ((Suf.trans ?_ (suf_outs _ _ _ _ ho)).trans ((suf_kill _ _ _).trans (suf_add _ _ _ _)))
              split
              · exact suf_but _ _ _ _
              · exact Suf.refl _
            · cases hK
          · cases hK
        · cases hf
      · cases hf
    · cases hf
   all_goals (simp [opF,opK] at hf)
theorem rowsOf_names {m m2:Hp} {τ:Ty} {v:V} (h:∀ b ∈ Zgv v,m2.at b = m.at b):Zeq m2 τ v = Zeq m τ v:=by
 cases v with
 | arr b=>simp only [Zeq,h b (by simp [Zgv])]
 | val σ x=>cases σ <;> rfl
 | _=>rfl
theorem touched_nil {m m':Hp} (h:Suf m m') (ht:Zh4 m m' = []):m' = m:=by
 obtain ⟨p,rfl⟩:=h
 have e:Zh4 m (p ++ m) = p.map (·.1):=by simp [Zh4]
 rw [e,List.map_eq_nil_iff] at ht
 subst ht; rfl
theorem frz_same {m m2:Hp} {v:V} {τ:Ty} {r:List (D τ)} (hr:Zeq m τ v = some r) (h:∀ b ∈ Zgv v,m2.at b = m.at b) (hf:frz m v = m):frz m2 v = m2:=by
 cases v with
 | arr b =>
   have h1:=h b (by simp [Zgv])
   simp only [frz,frz1] at hf ⊢
   rw [h1]
   split
   · rename_i σ l hb
     rw [hb] at hf
     have:=congrArg List.length hf
     simp at this
   · rename_i σ l hb
     rw [hb] at hf
     have:=congrArg List.length hf
     simp at this
   · rfl
 | agg cs=>simp [Zeq] at hr
 | tup cs=>simp [Zeq] at hr
 | _=>rfl
theorem quiet_local (hE:EnvC P E) {o:Op} (hq:quietOp o = true) {b:Nat} (hf:opF E o b s = some (v,m')) (ht:Zh4 s.m m' = []):m' = s.m /\
  ∀ (s2:St) (b2:Nat),(∀ x ∈ o.operands.toList,opnd E s2 x = opnd E s x) -> (∀ c ∈ Zf4 E s o,s2.m.at c = s.m.at c) -> opF E o b2 s2 = some (v,s2.m):=by
 have hm:=touched_nil (suf_op hE hf) ht
 refine ⟨hm,fun s2 b2 ho hn=>?_⟩
 subst hm
 cases o <;> simp only [quietOp] at hq <;> first | (cases hq; done) | skip
 case slice t x lo hi mx =>
  cases mx with
  | some _=>simp [opF,opK] at hf
  | none =>
    have hx:=ho x (by simp [Op.operands])
    have hnx:∀ c ∈ Zgv (opnd E s x),s2.m.at c = s.m.at c:=fun c hc=>names_at (m2:=s2.m) rfl hn (x:=x) (by simp [Op.operands]) hc
    have hl:∀ d (K:Int -> Option (V × Hp)),wOI E s2 lo d K = wOI E s lo d K:=fun d K=>by
     cases lo with
     | none=>rfl
     | some y=>simp only [wOI,ho y (by simp [Op.operands])]
    have hh:∀ d (K:Int -> Option (V × Hp)),wOI E s2 hi d K = wOI E s hi d K:=fun d K=>by
     cases hi with
     | none=>rfl
     | some y=>simp only [wOI,ho y (by simp [Op.operands])]
    simp only [opF,opK] at hf ⊢
    obtain ⟨l,hl1,hf⟩:=Zdy hf
    simp only [wT,hl1,hx,hl,hh]
    split at hf
    · rename_i hk
      try simp only [hk]
      split at hf
      · rename_i a0 ha0
        have fin:∀ (z:V) (c:Bool),iteB c (some (z,s.m)) none = some (v,s.m) -> iteB c (some (z,s2.m)) none = some (v,s2.m):=fun z c h=>by
         obtain ⟨hc,h⟩:=Zc4 h
         obtain ⟨rfl,h2⟩:=Zbp h
         rw [hc]; rfl
        unfold wOI at hf ⊢
        split at hf
        · obtain ⟨k1,n1,e1,hf⟩:=Zfl hf
          simp only [e1,wI]
          split at hf
          · obtain ⟨k2,n2,e2,hf⟩:=Zfl hf
            simp only [e2]
            exact fin _ _ hf
          · exact fin _ _ hf
        · split at hf
          · obtain ⟨k2,n2,e2,hf⟩:=Zfl hf
            simp only [e2,wI]
            exact fin _ _ hf
          · exact fin _ _ hf
      · cases hf
    · rename_i e hk
      obtain ⟨le,hle,hf⟩:=Zdy hf
      simp only [hle,rowsOf_names hnx]
      split at hf
      · rename_i r hr
        try simp only [hr]
        have fin:∀ (z:V) (c:Bool),iteB c (some (z,frz s.m (opnd E s x))) none = some (v,s.m) -> iteB c (some (z,frz s2.m (opnd E s x))) none = some (v,s2.m):=fun z c h=>by
         obtain ⟨hc,h⟩:=Zc4 h
         obtain ⟨rfl,h2⟩:=Zbp h
         rw [hc,frz_same hr hnx h2]; rfl
        unfold wOI at hf ⊢
        split at hf
        · obtain ⟨k1,n1,e1,hf⟩:=Zfl hf
          simp only [e1,wI]
          split at hf
          · obtain ⟨k2,n2,e2,hf⟩:=Zfl hf
            simp only [e2]
            exact fin _ _ hf
          · exact fin _ _ hf
        · split at hf
          · obtain ⟨k2,n2,e2,hf⟩:=Zfl hf
            simp only [e2,wI]
            exact fin _ _ hf
          · exact fin _ _ hf
      · rename_i hr
        try simp only [hr]
        have fin:∀ (z:V) (c:Bool),iteB c (some (z,s.m)) none = some (v,s.m) -> iteB c (some (z,s2.m)) none = some (v,s2.m):=fun z c h=>by
         obtain ⟨hc,h⟩:=Zc4 h
         obtain ⟨rfl,h2⟩:=Zbp h
         rw [hc]; rfl
        have fin2:∀ (n:Int) (z:Int -> Int -> V),(wOI E s lo 0 fun l=>wOI E s hi n fun h=>iteB (Zfs l h n) (some (z l h,s.m)) none) = some (v,s.m) -> (wOI E s lo 0 fun l=>wOI E s hi n fun h=>iteB (Zfs l h n) (some (z l h,s2.m)) none) = some (v,s2.m):=fun n z hf=>by
         unfold wOI at hf ⊢
         split at hf
         · obtain ⟨k1,n1,e1,hf⟩:=Zfl hf
           simp only [e1,wI]
           split at hf
           · obtain ⟨k2,n2,e2,hf⟩:=Zfl hf
             simp only [e2]
             exact fin _ _ hf
           · exact fin _ _ hf
         · split at hf
           · obtain ⟨k2,n2,e2,hf⟩:=Zfl hf
             simp only [e2,wI]
             exact fin _ _ hf
           · exact fin _ _ hf
        cases hxx:opnd E s x with
        | arr b =>
          rw [hxx] at hnx
          simp only [hxx] at hf ⊢
          simp only [hnx b (by simp [Zgv])]
          split at hf
          · rename_i hb
            try simp only [hb]
            split at hf
            · rename_i he
              try rw [if_pos he]
              exact fin2 _ _ hf
            · cases hf
          · rename_i hb
            try simp only [hb]
            split at hf
            · rename_i he
              try rw [if_pos he]
              exact fin2 _ _ hf
            · cases hf
          · cases hf
        | _=>simp only [hxx] at hf; cases hf
    · cases hf
 case load t x =>
  have hx:=ho x (by simp [Op.operands])
  have hnx:∀ c ∈ Zgv (opnd E s x),s2.m.at c = s.m.at c:=fun c hc=>names_at (m2:=s2.m) rfl hn (x:=x) (by simp [Op.operands]) hc
  simp only [opF,opK] at hf ⊢
  obtain ⟨l,hl,hf⟩:=Zdy hf
  simp only [wT,hl,hx]
  have cel:∀ {cs:List V} {off:Nat},cellK l cs off s.m (fun v m=>some (v,m)) = some (v,s.m) -> cellK l cs off s2.m (fun v m=>some (v,m)) = some (v,s2.m):=fun h=>by
   unfold cellK at h ⊢
   split at h
   · split at h
     · obtain ⟨rfl,_⟩:=Zbp h; simp [*]
     · cases h
   · split at h
     · obtain ⟨rfl,_⟩:=Zbp h; simp [*]
     · cases h
  have lrp:∀ {τ:Ty} {x:D τ} {off:Nat},Zgx τ x off l s.m (fun v m=>some (v,m)) = some (v,s.m) -> Zgx τ x off l s2.m (fun v m=>some (v,m)) = some (v,s2.m):=fun h=>by
   unfold Zgx at h ⊢
   split at h
   · obtain ⟨rfl,_⟩:=Zbp h; rfl
   · cases h
  cases hxx:opnd E s x with
  | ptr c off =>
    rw [hxx] at hnx
    simp only [hxx] at hf ⊢
    simp only [hnx c (by simp [Zgv])]
    split at hf
    · rename_i hb
      try simp only [hb]
      exact cel hf
    · cases hf
  | rc cs=>simp only [hxx] at hf ⊢; exact cel hf
  | rp τ y=>simp only [hxx] at hf ⊢; exact lrp hf
  | ep c i off =>
    rw [hxx] at hnx
    simp only [hxx] at hf ⊢
    simp only [hnx c (by simp [Zgv])]
    split at hf
    · obtain ⟨y,hy,hf⟩:=Zd0 hf
      try simp only [hy]
      exact lrp hf
    · obtain ⟨y,hy,hf⟩:=Zd0 hf
      try simp only [hy]
      exact lrp hf
    · split at hf
      · obtain ⟨y,hy,hf⟩:=Zd0 hf
        split at hf
        · have:=congrArg List.length (Zbp hf).2
          simp only [List.length_cons] at this
          omega
        · cases hf
      · split at hf
        · rename_i hsc
          obtain ⟨y,hy,hf⟩:=Zd0 hf
          rw [if_pos hsc]
          try simp only [hy]
          exact lrp hf
        · cases hf
    · split at hf
      · split at hf
        · rename_i he
          try rw [if_pos he]
          obtain ⟨hc,hf⟩:=Zc4 hf
          obtain ⟨rfl,_⟩:=Zbp hf
          rw [hc]; rfl
        · cases hf
      · cases hf
    · cases hf
  | _=>simp only [hxx] at hf; cases hf
 case convert t u x =>
  have hx:=ho x (by simp [Op.operands])
  have hnx:∀ c ∈ Zgv (opnd E s x),s2.m.at c = s.m.at c:=fun c hc=>names_at (m2:=s2.m) rfl hn (x:=x) (by simp [Op.operands]) hc
  simp only [opF,opK] at hf ⊢
  obtain ⟨ls,hls,hf⟩:=Zdy hf
  obtain ⟨l,hl,hf⟩:=Zdy hf
  simp only [wT,hls,hl,hx]
  split at hf
  · rename_i k hk
    try simp only [hk]
    split at hf
    · rename_i e1
      obtain ⟨rfl,_⟩:=Zbp hf
      simp only
    · cases hf
  · obtain ⟨le,hle,hf⟩:=Zdy hf
    split at hf
    · split at hf
      · obtain ⟨_,h2⟩:=Zbp hf
        have:=congrArg List.length h2
        simp at this
      · cases hf
    · cases hf
  · rename_i hk
    try simp only [hk]
    split at hf
    · rename_i e hk2
      obtain ⟨le,hle,hf⟩:=Zdy hf
      simp only [hle]
      split at hf
      · rename_i hk3
        simp only [rowsOf_names hnx]
        split at hf
        · rename_i r hr
          obtain ⟨rfl,_⟩:=Zbp hf
          simp only
        · cases hf
      · cases hf
    · cases hf
  · cases hf
end
end Go.E
namespace Go.E
open Go Go.RowKit
def Zht (ops:Array Oper) (o:Oper) (s:St):Option Bool:=match o.guard with
 | none=>some true
 | some (j,want)=>match (ops[j]?).bind (·.dst) with
   | some d=>match s.get d with
     | .val .bool b=>some (b == want)
     | .tup []=>some false
     | _=>none
   | none=>none
def effE (E:Env) (ops:Array Oper) (base i:Nat) (o:Oper) (s:St):Option (V × Hp):=match Zht ops o s with
 | some true=>opF E o.op (base + Zed * i) s
 | some false=>some (.tup [],s.m)
 | none=>none
def ProtP (prot:List (Nat × List Nat)) (o:Oper) (m m':Hp):Prop:=∀ p ∈ prot,(∃ e ∈ o.after,Region.binds .any e = true /\ e.on = p.1) ∨ ∀ b ∈ p.2,m'.at b = m.at b
def anyE (E:Env) (ops:Array Oper) (base:Nat) (T:St -> Prop) (prot:List (Nat × List Nat)):Nat -> Array Bool -> St -> Prop
 | 0,L,s=>Region.ready .any ops L = [] /\ T s
 | f + 1,L,s=>(Region.ready .any ops L = [] -> T s) /\ ∀ i ∈ Region.ready .any ops L,∃ o v m',ops[i]? = some o /\ effE E ops base i o s = some (v,m') /\ ProtP prot o s.m m' /\
     anyE E ops base T prot f (L.setIfInBounds i true) ({ s with m:=m' }.put o.dst v)
section
variable {P:Program} {E:Env} {ops:Array Oper} {base:Nat} {T:St -> Prop} {s s2:St} {v:V} {m':Hp}
theorem Zh8 {o:Oper} (h:∀ t ∈ o.looksAt ops,s2.get t = s.get t):∀ x ∈ o.op.operands.toList,opnd E s2 x = opnd E s x:=fun x hx=>by
 cases x with
 | tmp t=>exact h t (List.mem_append_left _ (List.mem_filterMap.2 ⟨.tmp t,hx,rfl⟩))
 | _=>rfl
theorem namesO_congr {o:Op} (h:∀ x ∈ o.operands.toList,opnd E s2 x = opnd E s x):Zf4 E s2 o = Zf4 E s o:=by
 unfold Zf4
 split
 · rw [List.flatMap_def,List.flatMap_def]
   congr 1
   exact List.map_congr_left fun x hx=>by rw [h x hx]
 · rfl
theorem Zha {o:Oper} (h:∀ t ∈ o.looksAt ops,s2.get t = s.get t):Zht ops o s2 = Zht ops o s:=by
 unfold Zht
 cases hg:o.guard with
 | none=>rfl
 | some gw =>
   obtain ⟨j,want⟩:=gw
   cases hd:(ops[j]?).bind (·.dst) with
   | none=>simp only [hd]
   | some d =>
     have:=h d (List.mem_append_right _ (by simp [hg,hd]))
     simp only [hd,this]
theorem eff_congr {i:Nat} {o:Oper} (h:∀ t ∈ o.looksAt ops,s2.get t = s.get t) (hm:s2.m = s.m):effE E ops base i o s2 = effE E ops base i o s:=by
 unfold effE
 rw [Zha h]
 split
 · exact opF_congr (Zh8 h) hm _
 · rw [hm]
 · rfl
theorem Eqv.refl (s:St):Eqv s s:=⟨rfl,fun _=>rfl⟩
theorem Eqv.symm {s s':St} (h:Eqv s s'):Eqv s' s:=⟨h.1.symm,fun t=>(h.2 t).symm⟩
theorem Eqv.trans {s s' s'':St} (h:Eqv s s') (k:Eqv s' s''):Eqv s s'':=⟨h.1.trans k.1,fun t=>(h.2 t).trans (k.2 t)⟩
theorem Eqv.put {s s':St} (h:Eqv s s') (m:Hp) (d:Option Nat) (v:V):Eqv ({ s with m:=m }.put d v) ({ s' with m:=m }.put d v) :=
 ⟨by rw [put_m,put_m],fun t=>by rw [Zhi,Zhi]; split; · rfl
                                · exact h.2 t⟩
theorem anyE_eqv (hT:∀ s s',Eqv s s' -> T s -> T s') {prot:List (Nat × List Nat)}:∀ (f:Nat) (L:Array Bool) {s s':St},Eqv s s' -> anyE E ops base T prot f L s -> anyE E ops base T prot f L s'
 | 0,L,s,s',e,h=>⟨h.1,hT _ _ e h.2⟩
 | f + 1,L,s,s',e,h=>⟨fun hr=>hT _ _ e (h.1 hr),fun i hi=>by
     obtain ⟨o,v,m',h1,h2,h3,h4⟩:=h.2 i hi
     refine ⟨o,v,m',h1,?_,e.1 ▸ h3,anyE_eqv hT f _ (e.put m' o.dst v) h4⟩
     rw [eff_congr (fun t _=>(e.2 t).symm) e.1.symm]; exact h2⟩
theorem anyE_weak {prot prot':List (Nat × List Nat)} (hp:∀ p ∈ prot',p ∈ prot ∨ p.2 = []):∀ (f:Nat) (L:Array Bool) {s:St},anyE E ops base T prot f L s -> anyE E ops base T prot' f L s
 | 0,L,s,h=>h
 | f + 1,L,s,h=>⟨h.1,fun i hi=>by
     obtain ⟨o,v,m',h1,h2,h3,h4⟩:=h.2 i hi
     exact ⟨o,v,m',h1,h2,fun p hm=>(hp p hm).elim (h3 p) (fun e=>.inr fun b hb=>by rw [e] at hb; cases hb),anyE_weak hp f _ h4⟩⟩
def Steady (E:Env) (ops:Array Oper) (base i:Nat) (o:Oper) (s:St) (v:V):Prop :=
 ∀ s2:St,(∀ t ∈ o.looksAt ops,s2.get t = s.get t) -> (Zht ops o s = some true -> ∀ b ∈ Zf4 E s o.op,s2.m.at b = s.m.at b) -> effE E ops base i o s2 = some (v,s2.m)
theorem Steady.at {i:Nat} {o:Oper} (h:Steady E ops base i o s v):effE E ops base i o s = some (v,s.m):=h s (fun _ _=>rfl) (fun _ _ _=>rfl)
theorem eff_steady (hE:EnvC P E) {i:Nat} {o:Oper} {early:Bool} (he:early = true) (hp:passive o.op = true ∨ quietOp o.op = true /\ (Zht ops o s = some true -> Zhc early o s.m m' = true)) (hf:effE E ops base i o s = some (v,m')):m' = s.m /\
  Steady E ops base i o s v:=by
 unfold effE at hf
 split at hf
 · rename_i hw
   rcases hp with hp | ⟨hp,hq⟩
   · refine ⟨passive_m hE.ok.nat hp hf,fun s2 h1 h2=>?_⟩
     unfold effE
     rw [Zha h1,hw]
     exact passive_local hE.ok.nat hp hf _ (Zh8 h1) (h2 hw)
   · have hq:=hq hw
     unfold Zhc at hq
     rw [he,hp] at hq
     simp only [Bool.and_self,Bool.not_true,Bool.false_or,List.isEmpty_iff] at hq
     obtain ⟨k1,k2⟩:=quiet_local hE hp hf hq
     refine ⟨k1,fun s2 h1 h2=>?_⟩
     unfold effE
     rw [Zha h1,hw]
     exact k2 s2 _ (Zh8 h1) (h2 hw)
 · rename_i hw
   obtain ⟨rfl,rfl⟩:=Zbp hf
   refine ⟨rfl,fun s2 h1 h2=>?_⟩
   unfold effE
   rw [Zha h1,hw]
 · cases hf
theorem St.eta_m (s:St):({ s with m:=s.m }:St) = s:=rfl
theorem anyE_first (hT:∀ s s',Eqv s s' -> T s -> T s') {i:Nat} {oi:Oper} (hi:ops[i]? = some oi) {prot:List (Nat × List Nat)} {nm:List Nat} :
  ∀ (f:Nat) (L:Array Bool) (s:St),(∀ j oj,ops[j]? = some oj -> j ≠ i -> L.getD j true = false -> (∀ e ∈ oj.after,Region.binds .any e = true -> e.on ≠ i) -> oi.apart ops oj = true) ->
    i ∈ Region.ready .any ops L -> Steady E ops base i oi s v -> (Zht ops oi s = some true -> ∀ b ∈ Zf4 E s oi.op,b ∈ nm) -> anyE E ops base T ((i,nm) :: prot) f (L.setIfInBounds i true) (s.put oi.dst v) ->
    anyE E ops base T prot (f + 1) L s
 | 0,L,s,hfree,hr,hv,hnm,H=>by
   refine ⟨fun h=>(by rw [h] at hr; cases hr),fun j hj=>?_⟩
   by_cases hji:j = i
   · subst hji; exact ⟨oi,v,s.m,hi,hv.at,fun p _=>.inr fun b _=>rfl,anyE_weak (fun p hp=>.inl (List.mem_cons_of_mem _ hp)) 0 _ H⟩
   · have:=ready_mono hj hji
     rw [H.1] at this
     cases this
 | f + 1,L,s,hfree,hr,hv,hnm,H=>by
   refine ⟨fun h=>(by rw [h] at hr; cases hr),fun j hj=>?_⟩
   by_cases hji:j = i
   · subst hji; exact ⟨oi,v,s.m,hi,hv.at,fun p _=>.inr fun b _=>rfl,anyE_weak (fun p hp=>.inl (List.mem_cons_of_mem _ hp)) (f + 1) _ H⟩
   · obtain ⟨oj,u,m',g1,g2,g3,g4⟩:=H.2 j (ready_mono hj hji)
     obtain ⟨hjun,oj',hoj,hall⟩:=mem_ready.1 hj
     rw [g1] at hoj; cases hoj
     have hnot:∀ e ∈ oj.after,Region.binds .any e = true -> e.on ≠ i:=fun e he hb heq=>by
      have h1:=hall e he hb
      have h0:=(mem_ready.1 hr).1
      rw [heq] at h1
      rcases Nat.lt_or_ge i L.size with h' | h'
      · simp [h'] at h0 h1; rw [h0] at h1; cases h1
      · simp [Array.getElem?_eq_none h'] at h1
     obtain ⟨a1,a2,a3⟩:=Oper.apart_spec (hfree j oj g1 hji hjun hnot)
     have hgi:∀ t ∈ oj.looksAt ops,(s.put oi.dst v).get t = s.get t:=fun t ht=>by
      rw [Zhi,if_neg (fun e=>a1 t e ht)]
     rw [eff_congr hgi (put_m _ _ _)] at g2
     rw [put_m] at g3
     have hun:∀ b ∈ nm,m'.at b = s.m.at b:=by
      rcases g3 (i,nm) (by simp) with ⟨e,he,hb,hon⟩ | h
      · exact absurd hon (hnot e he hb)
      · exact h
     refine ⟨oj,u,m',g1,g2,fun p hp=>g3 p (List.mem_cons_of_mem _ hp),?_⟩
     have hgj:∀ t ∈ oi.looksAt ops,({ s with m:=m' }.put oj.dst u).get t = s.get t:=fun t ht=>by
      rw [Zhi,if_neg (fun e=>a3 t e ht)]; rfl
     refine anyE_first (nm:=nm) hT hi f (L.setIfInBounds j true) ({ s with m:=m' }.put oj.dst u) (fun k ok hk hki hunl hno=>?_) (ready_mono hr (Ne.symm hji)) ?_ (fun hw b hb=>?_) ?_
     · refine hfree k ok hk hki ?_ hno
       by_cases hjk:j = k
       · subst hjk; exact hjun
       · rw [getD_set_ne true hjk] at hunl; exact hunl
     · intro s2 h1 h2
       refine hv s2 (fun t ht=>(h1 t ht).trans (hgj t ht)) (fun hw b hb=>?_)
       have hw':Zht ops oi ({ s with m:=m' }.put oj.dst u) = some true:=by rw [Zha hgj]; exact hw
       have hb':b ∈ Zf4 E ({ s with m:=m' }.put oj.dst u) oi.op:=by rw [namesO_congr (Zh8 hgj)]; exact hb
       rw [h2 hw' b hb',put_m]
       exact hun b (hnm hw b hb)
     · refine hnm (by rw [Zha hgj] at hw; exact hw) b ?_
       rw [namesO_congr (Zh8 hgj)] at hb; exact hb
     · rw [Array.setIfInBounds_comm _ _ hji]
       refine anyE_eqv hT _ _ ⟨?_,fun t=>?_⟩ g4
       · rw [put_m,put_m,put_m]
       · rw [Zhi,Zhi]
         show (if _ then _ else (s.put oi.dst v).get t) = if _ then _ else St.get (St.put _ _ _) t
         rw [Zhi,Zhi]
         by_cases e1:oj.dst = some t
         · rw [if_pos e1,if_neg (fun e=>a2 t e e1),if_pos e1]
         · rw [if_neg e1,if_neg e1]; rfl
def Zhf (ops:Array Oper):Sc -> Nat -> Bool -> Array Bool -> Bool
 | .done,f,q,L=>decide (f = 0) && !q && (Region.ready .any ops L).isEmpty
 | .one i early r,f,q,L=>match f with
   | 0=>false
   | f + 1=>(match early with
     | false=>q || decide (Region.ready .any ops L = [i])
     | true=>!q && (Region.ready .any ops L).contains i && (match ops[i]? with | some o=>passive o.op || quietOp o.op | none=>false) && Region.free .any ops L i) && Zhf ops r f false (L.setIfInBounds i true)
 | .or a b,f,q,L=>(q || decide (Region.ready .any ops L = a.heads ++ b.heads)) && decide (f ≠ 0) && Zhf ops a f true L && Zhf ops b f true L
def Sc.ofList:List (Nat × Bool) -> Sc
 | []=>.done
 | (i,e) :: r=>.one i e (Sc.ofList r)
theorem lin_ofList:∀ l:List (Nat × Bool),(Sc.ofList l).lin = [l]
 | []=>rfl
 | (i,e) :: r=>by simp only [Sc.ofList,Sc.lin,lin_ofList r]; rfl
theorem lin_ne:∀ t:Sc,t.lin ≠ []
 | .done=>by simp [Sc.lin]
 | .one i e r=>by simp only [Sc.lin,ne_eq,List.map_eq_nil_iff]; exact lin_ne r
 | .or a b=>by simp only [Sc.lin,ne_eq,List.append_eq_nil_iff]; exact fun h=>lin_ne a h.1
def schedOk (ops:Array Oper) (ord:List (Nat × Bool)):Bool:=Zhf ops (Sc.ofList ord) ops.size false (Array.replicate ops.size false)
theorem protOk_ok {prot:List (Nat × List Nat)} {o:Oper} {m m':Hp} (hs:Suf m m') (h:protOk prot o m m' = true):ProtP prot o m m':=fun p hp=>by
 unfold protOk at h
 rw [List.all_eq_true] at h
 have:=h p hp
 rw [Bool.or_eq_true] at this
 rcases this with h | h
 · obtain ⟨e,he,hb⟩:=Array.any_eq_true'.1 h
   simp only [Bool.and_eq_true,beq_iff_eq] at hb
   exact .inl ⟨e,he,hb.1,hb.2⟩
 · rw [List.all_eq_true] at h
   exact .inr fun b hb=>touched_ok hs (by have:=h b hb; simpa using this)
theorem drawK_step (hE:EnvC P E) {ρ:Type} {K:St -> Option ρ} {r:ρ} {i:Nat} {early:Bool} {l:List (Nat × Bool)} {prot:List (Nat × List Nat)} (h:Ze2 E ops ((i,early) :: l) prot base s K = some r) :
  ∃ o v m' s0 prot',ops[i]? = some o /\ Eqv s s0 /\ effE E ops base i o s = some (v,m') /\ ProtP prot o s.m m' /\ (Zht ops o s = some true -> Zhc early o s.m m' = true) /\
    (prot' = prot /\ (early = false ∨ Zht ops o s = some false) ∨ prot' = (i,Zf4 E s o.op) :: prot /\ early = true) /\
    ∀ l',Ze2 E ops ((i,early) :: l') prot base s K = Ze2 E ops l' prot' base ({ s0 with m:=m' }.put o.dst v) K:=by
 simp only [Ze2] at h ⊢
 split at h
 · cases h
 rename_i o ho
 have doit:∀ s0:St,Eqv s s0 -> Zht ops o s = some true -> ∀ (Z:List (Nat × Bool) -> Option ρ),
   (∀ l',Z l' = opK E o.op (base + Zed * i) s0 fun v m=>if (protOk prot o s.m m && Zhc early o s.m m) = true then Ze2 E ops l' (if early = true then (i,Zf4 E s o.op) :: prot else prot) base ({ s0 with m:=m }.put o.dst v) K else none) -> Z l = some r ->
   ∃ o' v m' s0 prot',ops[i]? = some o' /\ Eqv s s0 /\ effE E ops base i o' s = some (v,m') /\ ProtP prot o' s.m m' /\ (Zht ops o' s = some true -> Zhc early o' s.m m' = true) /\
     (prot' = prot /\ (early = false ∨ Zht ops o' s = some false) ∨ prot' = (i,Zf4 E s o'.op) :: prot /\ early = true) /\
     ∀ l',Z l' = Ze2 E ops l' prot' base ({ s0 with m:=m' }.put o'.dst v) K:=fun s0 he hw Z hZ hr=>by
  have hr':=hr
  rw [hZ,opK_eq hE.ok.nat,Option.bind_eq_some_iff] at hr'
  obtain ⟨⟨v,m'⟩,h1,h2⟩:=hr'
  simp only at h2
  split at h2
  case isFalse=>cases h2
  rename_i hprot
  have hprot':=hprot
  rw [Bool.and_eq_true] at hprot
  have h1':opF E o.op (base + Zed * i) s = some (v,m'):=by
   rw [← h1]; exact opF_congr (fun x _=>by cases x <;> first | rfl | exact he.2 _) he.1 _
  refine ⟨o,v,m',s0,(if early = true then (i,Zf4 E s o.op) :: prot else prot),ho,he,?_,protOk_ok (suf_op hE h1') hprot.1,fun _=>hprot.2,?_,fun l'=>?_⟩
  · unfold effE; rw [hw]; exact h1'
  · cases early with
    | true=>exact .inr ⟨by simp,rfl⟩
    | false=>exact .inl ⟨by simp,.inl rfl⟩
  · rw [hZ,opK_eq hE.ok.nat,h1]
    simp only [Option.bind_some,hprot',if_true]
 have skip:∀ s0:St,Eqv s s0 -> Zht ops o s = some false -> ∀ (Z:List (Nat × Bool) -> Option ρ),(∀ l',Z l' = Ze2 E ops l' prot base (s0.put o.dst (.tup [])) K) ->
   ∃ o' v m' s0 prot',ops[i]? = some o' /\ Eqv s s0 /\ effE E ops base i o' s = some (v,m') /\ ProtP prot o' s.m m' /\ (Zht ops o' s = some true -> Zhc early o' s.m m' = true) /\
     (prot' = prot /\ (early = false ∨ Zht ops o' s = some false) ∨ prot' = (i,Zf4 E s o'.op) :: prot /\ early = true) /\
     ∀ l',Z l' = Ze2 E ops l' prot' base ({ s0 with m:=m' }.put o'.dst v) K:=fun s0 he hw Z hZ=>by
  refine ⟨o,.tup [],s.m,s0,prot,ho,he,by unfold effE; rw [hw],fun p _=>.inr fun b _=>rfl,fun h=>(by rw [hw] at h; cases h),.inl ⟨rfl,.inr hw⟩,fun l'=>?_⟩
  rw [he.1]; exact hZ l'
 split at h
 · rename_i hg
   try simp only [hg]
   exact doit s (Eqv.refl s) (by unfold Zht; rw [hg]) _ (fun l'=>rfl) h
 · rename_i j want hg
   try simp only [hg]
   split at h
   · cases h
   rename_i oj hoj
   try simp only [hoj]
   split at h
   · cases h
   rename_i d hdj
   try simp only [hdj]
   have hw:Zht ops o s = match s.get d with | .val .bool b=>some (b == want) | .tup []=>some false | _=>none:=by
    unfold Zht; rw [hg]; simp only [hoj,Option.bind_some,hdj]
   split at h
   · rename_i b hb
     rw [hb] at hw
     try simp only [hb]
     split at h
     · rcases Zfj h with ⟨rfl,h⟩ | ⟨rfl,h⟩
       · exact doit _ (Zgp hb) hw _ (fun l'=>rfl) h
       · exact skip _ (Zgp hb) hw _ (fun l'=>rfl)
     · rcases Zfj h with ⟨rfl,h⟩ | ⟨rfl,h⟩
       · exact skip _ (Zgp hb) hw _ (fun l'=>rfl)
       · exact doit _ (Zgp hb) hw _ (fun l'=>rfl) h
   · rename_i hb
     rw [hb] at hw
     try simp only [hb]
     exact skip s (Eqv.refl s) hw _ (fun l'=>rfl)
   · cases h
end
end Go.E
namespace Go.E
open Go Go.RowKit
section
variable {P:Program} {E:Env} {ops:Array Oper} {base:Nat} {s s2:St} {v:V} {m':Hp}
def EndT (ops:Array Oper) (base:Nat) {ρ:Type} (K:St -> Option ρ) (r:ρ) (s:St):Prop:=∃ s',Eqv s' s /\ K { s' with n:=base + Zed * ops.size } = some r
theorem EndT.eqv {ρ:Type} {K:St -> Option ρ} {r:ρ}:∀ s s',Eqv s s' -> EndT ops base K r s -> EndT ops base K r s':=fun s s' e ⟨s'',h1,h2⟩=>⟨s'',h1.trans e,h2⟩
def NextE (E:Env) (ops:Array Oper) (base:Nat) (T:St -> Prop) (prot:List (Nat × List Nat)) (f:Nat) (L:Array Bool) (s:St) (i:Nat):Prop :=
 ∃ o v m',ops[i]? = some o /\ effE E ops base i o s = some (v,m') /\ ProtP prot o s.m m' /\ anyE E ops base T prot f (L.setIfInBounds i true) ({ s with m:=m' }.put o.dst v)
theorem draw_any (hE:EnvC P E) {ρ:Type} {K:St -> Option ρ} {r:ρ}:∀ (t:Sc) (f:Nat) (q:Bool) (prot:List (Nat × List Nat)) (L:Array Bool) (s:St),Zhf ops t f q L = true -> (∀ l ∈ t.lin,Ze2 E ops l prot base s K = some r) ->
  (q = false -> anyE E ops base (EndT ops base K r) prot f L s) /\ (q = true -> ∀ i ∈ t.heads,∃ f',f = f' + 1 /\ NextE E ops base (EndT ops base K r) prot f' L s i)
 | .done,f,q,prot,L,s,hs,h=>by
   simp only [Zhf,Bool.and_eq_true,decide_eq_true_eq,List.isEmpty_iff,Bool.not_eq_true'] at hs
   obtain ⟨⟨rfl,rfl⟩,hs⟩:=hs
   exact ⟨fun _=>⟨hs,s,Eqv.refl s,h [] (by simp [Sc.lin])⟩,fun e=>by cases e⟩
 | .one i early t,0,q,prot,L,s,hs,h=>by simp [Zhf] at hs
 | .one i early t,f + 1,q,prot,L,s,hs,h=>by
   simp only [Zhf,Bool.and_eq_true] at hs
   obtain ⟨hs1,hs2⟩:=hs
   obtain ⟨l0,hl0⟩:=List.exists_mem_of_ne_nil _ (lin_ne t)
   have h0:=h ((i,early) :: l0) (by simp only [Sc.lin]; exact List.mem_map_of_mem hl0)
   obtain ⟨o,v,m',s0,prot',h1,h2,h3,h4,hq,h5,h6⟩:=drawK_step hE h0
   have hall:∀ l ∈ t.lin,Ze2 E ops l prot' base ({ s0 with m:=m' }.put o.dst v) K = some r:=fun l hl=>by
    rw [← h6]; exact h _ (by simp only [Sc.lin]; exact List.mem_map_of_mem hl)
   have ih:=(draw_any hE t f false prot' (L.setIfInBounds i true) _ hs2 hall).1 rfl
   have hnext:Eqv ({ s0 with m:=m' }.put o.dst v) ({ s with m:=m' }.put o.dst v):=h2.symm.put m' o.dst v
   have ih:=anyE_eqv EndT.eqv _ _ hnext ih
   cases early with
   | false =>
     have hp:prot' = prot:=by rcases h5 with h | h; · exact h.1
                              · cases h.2
     subst hp
     have nx:NextE E ops base (EndT ops base K r) prot' f L s i:=⟨o,v,m',h1,h3,h4,ih⟩
     refine ⟨fun hq0=>?_,fun _ j hj=>?_⟩
     · subst hq0
       simp only [Bool.false_or,decide_eq_true_eq] at hs1
       refine ⟨fun e=>(by rw [hs1] at e; cases e),fun j hj=>?_⟩
       rw [hs1,List.mem_singleton] at hj
       subst hj
       exact nx
     · simp only [Sc.heads,List.mem_singleton] at hj
       subst hj
       exact ⟨f,rfl,nx⟩
   | true =>
     simp only [Bool.and_eq_true,h1,Bool.not_eq_true',Bool.or_eq_true] at hs1
     obtain ⟨⟨⟨k0,k1⟩,k2⟩,k3⟩:=hs1
     refine ⟨fun _=>?_,fun e=>(by rw [k0] at e; cases e)⟩
     obtain ⟨hm,hst⟩:=eff_steady hE rfl (k2.imp id fun k=>⟨k,hq⟩) h3
     subst hm
     have key:∀ nm,(Zht ops o s = some true -> ∀ b ∈ Zf4 E s o.op,b ∈ nm) -> anyE E ops base (EndT ops base K r) ((i,nm) :: prot) f (L.setIfInBounds i true) (s.put o.dst v) -> anyE E ops base (EndT ops base K r) prot (f + 1) L s:=fun nm hn H =>
      anyE_first EndT.eqv h1 f L s (fun j oj hj hne hun hno=>Region.free_spec h1 k3 j oj hj hne hun hno) (by simpa using k1) hst hn H
     rcases h5 with ⟨rfl,h7⟩ | ⟨rfl,_⟩
     · rcases h7 with h8 | h8
       · cases h8
       · refine key [] (fun hw=>(by rw [h8] at hw; cases hw)) (anyE_weak (fun p hp=>?_) _ _ ih)
         rcases List.mem_cons.1 hp with rfl | hp
         · exact .inr rfl
         · exact .inl hp
     · exact key _ (fun _ b hb=>hb) ih
 | .or a b,f,q,prot,L,s,hs,h=>by
   simp only [Zhf,Bool.and_eq_true,decide_eq_true_eq,ne_eq,Bool.or_eq_true] at hs
   obtain ⟨⟨⟨hs1,hf⟩,hs2⟩,hs3⟩:=hs
   have ha:=(draw_any hE a f true prot L s hs2 (fun l hl=>h l (by simp only [Sc.lin]; exact List.mem_append_left _ hl))).2 rfl
   have hb:=(draw_any hE b f true prot L s hs3 (fun l hl=>h l (by simp only [Sc.lin]; exact List.mem_append_right _ hl))).2 rfl
   have hab:∀ i ∈ a.heads ++ b.heads,∃ f',f = f' + 1 /\ NextE E ops base (EndT ops base K r) prot f' L s i:=fun i hi=>(List.mem_append.1 hi).elim (ha i) (hb i)
   refine ⟨fun hq0=>?_,fun _=>hab⟩
   have hready:Region.ready .any ops L = a.heads ++ b.heads:=by
    rcases hs1 with hs1 | hs1
    · rw [hq0] at hs1; cases hs1
    · exact hs1
   cases f with
   | zero=>exact absurd rfl hf
   | succ f =>
     have hne:a.heads ++ b.heads ≠ []:=by
      have:∀ (t:Sc) (f:Nat) (L:Array Bool),Zhf ops t f true L = true -> t.heads ≠ []:=by
       intro t
       induction t with
       | done=>intro f L h; simp [Zhf] at h
       | one i e r _=>intro f L h; simp [Sc.heads]
       | or x y ihx _ =>
         intro f L h
         simp only [Zhf,Bool.and_eq_true] at h
         simp only [Sc.heads,ne_eq,List.append_eq_nil_iff]
         exact fun e=>ihx f L h.1.2 e.1
      simp only [ne_eq,List.append_eq_nil_iff]
      exact fun e=>this a _ L hs2 e.1
     refine ⟨fun e=>absurd (hready.symm.trans e) hne,fun i hi=>?_⟩
     rw [hready] at hi
     obtain ⟨f',e,k⟩:=hab i hi
     cases e
     exact k
structure Rz (E:Env) (w0:World) (Ob A B:Nat -> Prop) (N:Nat) (μ0:Mu) (Z:Nat -> Prop) (F:Nat -> Prop) (μ:Mu) (s:St) (a:Act) (w:World):Prop where
 mem:Mem E.G w0 Ob A B F μ s.m w
 tmps:∀ t,R F B w μ (s.get t) (a.tmps.getD t undef)
 size:a.tmps.size = N
 defers:a.defers = []
 free:∀ id,Z id -> μ id = none
 keep:μ0.le μ
variable {w0:World} {Ob A B F:Nat -> Prop} {μ:Mu} {w:World} {N:Nat} {μ0:Mu} {a:Act}
theorem Rz.pre (hE:EnvC P E) {Z:Nat -> Prop} (h:Rz E w0 Ob A B N μ0 Z F μ s a w):Pre P E w0 Ob A B F μ s a w where
 env:=hE.ok
 mem:=h.mem
 ev x:=by
  cases x with
  | tmp t=>exact h.tmps t
  | const v=>exact ofVal_ok F B w μ v
  | global g =>
    simp only [opnd]
    split
    · rename_i cs hg; exact h.mem.glob.1 g cs hg
    · simp only [R]
  | func f=>simp only [opnd,R]; exact ⟨#[],rfl,by simp [RL]⟩
theorem Rz.put {Z:Nat -> Prop} (h:Rz E w0 Ob A B N μ0 Z F μ s a w) {d:Option Nat} (hd:∀ t,d = some t -> t < N) {cv:Value} (hv:R F B w μ v cv):Rz E w0 Ob A B N μ0 Z F μ (s.put d v) (a.put d cv) w where
 mem:=by rw [put_m]; exact h.mem
 tmps t:=by
  rw [Zhi,getD_put h.size hd]; split
  · exact hv
  · exact h.tmps t
 size:=by rw [size_put]; exact h.size
 defers:=by rw [defers_put]; exact h.defers
 free:=h.free
 keep:=h.keep
theorem Rz.wanted {Z:Nat -> Prop} (h:Rz E w0 Ob A B N μ0 Z F μ s a w) (hN:ops.all (dstOk N) = true) {o:Oper} {b:Bool} (hw:Zht ops o s = some b):Region.wanted o (yielded ops a.tmps) = b:=by
 unfold Zht at hw
 unfold Region.wanted
 cases hg:o.guard with
 | none=>rw [hg] at hw; cases hw; rfl
 | some gw =>
   obtain ⟨j,want⟩:=gw
   rw [hg] at hw
   simp only at hw ⊢
   cases hoj:ops[j]? with
   | none=>rw [hoj] at hw; cases hw
   | some oj =>
     cases hd:oj.dst with
     | none=>rw [hoj] at hw; simp [hd] at hw
     | some d =>
       rw [hoj] at hw
       simp only [Option.bind_some,hd] at hw
       have hdN:d < N:=dst_lt (Array.all_eq_true_iff_forall_mem.1 hN oj (Array.mem_of_getElem? hoj)) d hd
       have e:yielded ops a.tmps j = match a.tmps[d]? with | some (.bool b)=>some b | _=>none:=by
        simp only [yielded,hoj,hd,Option.bind_some]; rfl
       have e2:a.tmps[d]? = some (a.tmps.getD d undef):=by
        rw [Array.getD_eq_getD_getElem?,Array.getElem?_eq_getElem (by rw [h.size]; exact hdN)]; rfl
       have hr:=h.tmps d
       split at hw
       · rename_i b' hb
         rw [hb] at hr
         rw [e,e2,R_bool hr]
         simp only [Option.some.injEq] at hw
         rw [← hw]
         cases b' <;> cases want <;> rfl
       · rename_i hb
         rw [hb] at hr
         simp only [R] at hr
         obtain ⟨vs,e3,_⟩:=hr
         cases hw
         rw [e,e2,e3]; rfl
       · cases hw
def Zof (ops:Array Oper) (base:Nat) (L:Array Bool) (id:Nat):Prop:=base + Zed * ops.size <= id ∨ ∃ i,i < ops.size /\ L.getD i true = false /\ base + Zed * i <= id /\ id < base + Zed * i + Zed
theorem any_sound (hE:EnvC P E) (hN:ops.all (dstOk N) = true) {T:St -> Prop} {prot:List (Nat × List Nat)} {Q:Exit -> Act -> World -> Prop}
  (hQ:∀ s' a' w',T s' -> Rel E w0 Ob A B N μ0 (base + Zed * ops.size) s' a' w' -> Q .normal a' w') :
  ∀ (f:Nat) (L:Array Bool) (s:St) (a:Act) (w:World) (F:Nat -> Prop) (μ:Mu),Rz E w0 Ob A B N μ0 (Zof ops base L) F μ s a w -> anyE E ops base T prot f L s -> wpAny P .any ops Q f L a w
 | 0,L,s,a,w,F,μ,h,he=>⟨he.1,hQ _ _ _ he.2 ⟨F,μ,h.mem,h.tmps,h.size,h.defers,fun id hid=>h.free id (.inl hid),h.keep⟩⟩
 | f + 1,L,s,a,w,F,μ,h,he=>by
   refine ⟨fun hr=>hQ _ _ _ (he.1 hr) ⟨F,μ,h.mem,h.tmps,h.size,h.defers,fun id hid=>h.free id (.inl hid),h.keep⟩,fun i hi=>?_⟩
   obtain ⟨o,v,m',h1,h2,h3,h4⟩:=he.2 i hi
   obtain ⟨hiL,o',ho',_⟩:=mem_ready.1 hi
   have hlt:i < ops.size:=(Array.getElem?_eq_some_iff.1 h1).1
   have hd:=dst_lt (Array.all_eq_true_iff_forall_mem.1 hN o (Array.mem_of_getElem? h1))
   have zsub:∀ id,Zof ops base (L.setIfInBounds i true) id -> Zof ops base L id /\ ¬ (base + Zed * i <= id /\ id < base + Zed * i + 64):=fun id hz=>by
    rcases hz with hz | ⟨j,j1,j2,j3,j4⟩
    · refine ⟨.inl hz,fun hh=>?_⟩
      have:Zed * i + Zed <= Zed * ops.size:=by rw [← Nat.mul_succ]; exact Nat.mul_le_mul_left _ hlt
      unfold Zed at *; omega
    · have hne:i ≠ j:=by
        rintro rfl
        rcases Nat.lt_or_ge i L.size with h' | h'
        · simp [h'] at j2
        · rw [Array.setIfInBounds_eq_of_size_le h'] at j2
          simp [Array.getElem?_eq_none h'] at j2
      refine ⟨.inr ⟨j,j1,by rw [getD_set_ne true hne] at j2; exact j2,j3,j4⟩,fun hh=>?_⟩
      unfold Zed at *
      omega
   unfold wpOp
   simp only [h1]
   unfold effE at h2
   split at h2
   · rename_i hw
     rw [h.wanted hN hw]
     simp only [if_true]
     refine .inl (good_op hE (h.pre hE) (fun k hk=>h.free _ (.inr ⟨i,hlt,hiL,by omega,by unfold Zed; unfold Zed at *; omega⟩)) h2 Q _ (fun cv w' F' μ' hs hv=>?_))
     refine any_sound hE hN hQ f _ _ _ _ F' μ' ?_ h4
     have k:Rz E w0 Ob A B N μ0 (Zof ops base (L.setIfInBounds i true)) F' μ' { s with m:=m' } a w' :=
      ⟨hs.mem,fun t=>hs.tr.R (h.tmps t),h.size,h.defers,fun id hid=>hs.loc id (zsub id hid).2 (h.free id (zsub id hid).1),Mu.le_trans h.keep hs.tr.mu⟩
     exact k.put hd hv
   · rename_i hw
     rw [h.wanted hN hw]
     simp only [Bool.false_eq_true,if_false]
     obtain ⟨rfl,rfl⟩:=Zbp h2
     refine any_sound hE hN hQ f _ _ _ _ F μ ?_ h4
     have k:Rz E w0 Ob A B N μ0 (Zof ops base (L.setIfInBounds i true)) F μ { s with m:=s.m } a w :=
      ⟨h.mem,h.tmps,h.size,h.defers,fun id hid=>h.free id (zsub id hid).1,h.keep⟩
     exact k.put hd (R_undef0 _ _ _ _)
   · cases h2
theorem sound_tree (hE:EnvC P E) (hmix:P.follows .mixedOrders = true) (hN:ops.all (dstOk N) = true) {id:Nat} {t:Sc} (hs:Zhf ops t ops.size false (Array.replicate ops.size false) = true) {ρ:Type} {K:St -> Option ρ} {r:ρ} {Q:Exit -> Act -> World -> Prop}
  (h:Rel E w0 Ob A B N μ0 s.n s a w) (hr:∀ l ∈ t.lin,Ze2 E ops l [] s.n s K = some r) (hQ:∀ s' a' w',K s' = some r -> Rel E w0 Ob A B N μ0 s'.n s' a' w' -> Q .normal a' w'):(Code.region id ops true).wp P Q a w:=by
 have hany:=(draw_any hE t _ false [] _ s hs hr).1 rfl
 obtain ⟨F,μ,h⟩:=h
 refine wp_region_any hmix (any_sound hE hN (fun s' a' w' hT hrel=>?_) _ _ _ _ _ F μ ⟨h.mem.drew,fun t=>(⟨fun _ x=>x,fun _ _ _ _ e=>e,fun _ _ _ _ e=>e,μ.le_refl⟩:Tr B F F μ μ w w.drew).R (h.tmps t),h.size,h.defers,fun id hz=>h.free id ?_,h.keep⟩ hany)
 · obtain ⟨s'',he,hK⟩:=hT
   obtain ⟨F',μ',h'⟩:=hrel
   have:=h'.eqv he.symm
   exact hQ _ a' w' hK ⟨F',μ',this.mem,this.tmps,this.size,this.defers,this.free,this.keep⟩
 · rcases hz with hz | ⟨i,_,_,h1,_⟩
   · unfold Zed at hz; omega
   · omega
theorem sound_draw (hE:EnvC P E) (hmix:P.follows .mixedOrders = true) (hN:ops.all (dstOk N) = true) {id:Nat} {ord:List (Nat × Bool)} (hs:schedOk ops ord = true) {ρ:Type} {K:St -> Option ρ} {r:ρ} {Q:Exit -> Act -> World -> Prop}
  (h:Rel E w0 Ob A B N μ0 s.n s a w) (hr:Ze2 E ops ord [] s.n s K = some r) (hQ:∀ s' a' w',K s' = some r -> Rel E w0 Ob A B N μ0 s'.n s' a' w' -> Q .normal a' w'):(Code.region id ops true).wp P Q a w :=
 sound_tree hE hmix hN hs h (fun l hl=>by rw [lin_ofList,List.mem_singleton] at hl; rw [hl]; exact hr) hQ
theorem Zgg {ρ ρ':Type} (hE:E.ok) {ops:Array Oper} (f:ρ -> Option ρ'):∀ (l:List (Nat × Bool)) (prot:List (Nat × List Nat)) (base:Nat) (s:St) (K:St -> Option ρ),(Ze2 E ops l prot base s K).bind f = Ze2 E ops l prot base s (fun s=>(K s).bind f)
 | [],prot,base,s,K=>rfl
 | (i,e) :: l,prot,base,s,K=>by
   have go:∀ (o:Oper) (b:Nat) (s0 s1:St) (p':List (Nat × List Nat)),
     (opK E o.op b s0 fun v m=>if (protOk prot o s1.m m && Zhc e o s1.m m) = true then Ze2 E ops l p' base ({ s0 with m:=m }.put o.dst v) K else none).bind f =
     opK E o.op b s0 fun v m=>if (protOk prot o s1.m m && Zhc e o s1.m m) = true then Ze2 E ops l p' base ({ s0 with m:=m }.put o.dst v) (fun s=>(K s).bind f) else none:=fun o b s0 s1 p'=>by
    rw [opK_bind hE]; congr 1; funext v m
    split
    · exact Zgg hE f l _ _ _ K
    · rfl
   simp only [Ze2]
   split
   · rfl
   · split
     · exact go _ _ _ _ _
     · split
       · rfl
       · split
         · rfl
         · split
           · split
             · rw [Zdv,go,Zgg hE f l]
             · rw [Zdv,go,Zgg hE f l]
           · exact Zgg hE f l _ _ _ K
           · rfl
theorem forkL_mem {ops:Array Oper} {base:Nat} {s:St} {C:St -> Option St} {o0:List (Nat × Bool)}:∀ (l:List (List (Nat × Bool))),forkL E ops base s C o0 l -> ∀ o ∈ l,Ze2 E ops o [] base s C = Ze2 E ops o0 [] base s C
 | [],_,o,ho=>by cases ho
 | x :: r,h,o,ho=>by
   rcases List.mem_cons.1 ho with rfl | ho
   · exact h.1
   · exact forkL_mem r h.2 o ho
theorem orK_all {ρ:Type} (hE:E.ok) {kp live:List Nat} {t:Sc} {K:St -> Option ρ} {r:ρ} (h:orK E kp live ops t base s K = some r):∀ l ∈ t.lin,Ze2 E ops l [] base s (fun s=>K (canon kp live s)) = some r:=by
 unfold orK at h
 split at h
 · cases h
 · rename_i o0 l hl
   split at h
   case isFalse=>cases h
   rename_i hf
   have key:∀ o,Ze2 E ops o [] base s (fun s=>K (canon kp live s)) = (Ze2 E ops o [] base s (fun s=>some (canon kp live s))).bind K:=fun o=>by
    rw [Zgg hE]; rfl
   intro o ho
   rw [hl] at ho
   rcases List.mem_cons.1 ho with rfl | ho
   · exact h
   · rw [key,forkL_mem l hf o ho,← key]; exact h
theorem sound_fork (hE:EnvC P E) (hmix:P.follows .mixedOrders = true) {kp live:List Nat} (hkp:∀ i o,μ0 i = some o -> i ∈ kp) (hN:ops.all (dstOk N) = true) {id:Nat} {t:Sc} (hs:Zhf ops t ops.size false (Array.replicate ops.size false) = true) {ρ:Type} {K:St -> Option ρ} {r:ρ} {Q:Exit -> Act -> World -> Prop}
  (h:Rel E w0 Ob A B N μ0 s.n s a w) (hr:orK E kp live ops t s.n s K = some r) (hQ:∀ s' a' w',K s' = some r -> Rel E w0 Ob A B N μ0 s'.n s' a' w' -> Q .normal a' w'):(Code.region id ops true).wp P Q a w :=
 sound_tree hE hmix hN hs h (orK_all hE.ok.nat hr) (fun s' a' w' h1 h2=>hQ _ a' w' h1 (canon_ok hE hkp h2))
end
end Go.E

/- A part of the proof: EB. -/
import Derived.Test.YtjpmjigganoioaaGreatDoorEA
import Derived.Great.BuildSlice
import Derived.Laws.BytesString
import Derived.Laws.MakeOwn
import Derived.Laws.IdiomStrings
import Derived.Deep.AppendSrc
import Derived.Deep.Upon
set_option linter.unusedVariables false
noncomputable section
namespace Go.E
open Go Go.RowKit
section
variable {P:Program} {E:Env} {G:List (Nat × List V)} {w0:World} {Ob A B F:Nat -> Prop} {μ:Mu} {m:Hp} {w:World} {base:Nat} {s:St} {a:Act} {v:V} {m':Hp}
theorem setOff_ok:∀ (τ:Ty) {x:D τ} {cs:List Value},RC F w τ x cs -> ∀ {off:Nat} {σ:Ty} {y:D σ} {d:List Value},RC F w σ y d -> ∀ {z:D τ},Ze0 τ x off σ y = some z -> σ ≠ .unit ->
  RC F w τ z (cs.take off ++ d ++ cs.drop (off + d.length)) /\ off + d.length <= cs.length:=by
 intro τ
 have whole:∀ (τ:Ty) {cs:List Value},cs.length = τ.width -> ∀ {off:Nat} {σ:Ty} {y:D σ} {d:List Value},RC F w σ y d -> ∀ {z:D τ},off = 0 -> Zev y = some z ->
   RC F w τ z (cs.take off ++ d ++ cs.drop (off + d.length)) /\ off + d.length <= cs.length:=by
  intro τ cs hn off σ y d hy z h0 hz
  obtain ⟨e,rfl⟩:=Zcb hz
  cases e; subst h0
  have:=hy.len
  rw [List.drop_eq_nil_of_le (by omega)]
  exact ⟨by simpa using hy,by omega⟩
 induction τ with
 | pr a b iha ihb =>
   intro x cs h off σ y d hy z hz hσ
   have hn:=h.len
   simp only [Ze0] at hz
   split at hz
   · rename_i h0; exact whole _ hn hy h0.1 hz
   · simp only [RC] at h
     obtain ⟨c,e,rfl,h1,h2⟩:=h
     have l1:=h1.len
     split at hz
     · simp only [Option.map_eq_some_iff] at hz
       obtain ⟨u,hu,rfl⟩:=hz
       obtain ⟨k1,k2⟩:=iha h1 hy hu hσ
       refine ⟨?_,by simp; omega⟩
       simp only [RC]
       refine ⟨_,e,?_,k1,h2⟩
       rw [List.take_append_of_le_length (by omega),List.drop_append_of_le_length (by omega)]
       simp
     · rename_i hlt
       simp only [Option.map_eq_some_iff] at hz
       obtain ⟨u,hu,rfl⟩:=hz
       obtain ⟨k1,k2⟩:=ihb h2 hy hu hσ
       refine ⟨?_,by simp; omega⟩
       simp only [RC]
       refine ⟨c,_,?_,h1,k1⟩
       rw [← l1] at *
       rw [List.take_append,List.take_of_length_le (by omega),List.drop_append,List.drop_eq_nil_of_le (by omega)]
       simp only [List.nil_append,List.append_assoc]
       congr 4
       omega
 | int k=>intro x cs h off σ y d hy z hz hσ; simp only [Ze0] at hz; split at hz <;> first | exact whole _ h.len hy ‹_› hz | cases hz
 | bool=>intro x cs h off σ y d hy z hz hσ; simp only [Ze0] at hz; split at hz <;> first | exact whole _ h.len hy ‹_› hz | cases hz
 | str=>intro x cs h off σ y d hy z hz hσ; simp only [Ze0] at hz; split at hz <;> first | exact whole _ h.len hy ‹_› hz | cases hz
 | err=>intro x cs h off σ y d hy z hz hσ; simp only [Ze0] at hz; split at hz <;> first | exact whole _ h.len hy ‹_› hz | cases hz
 | unit=>intro x cs h off σ y d hy z hz hσ; simp only [Ze0] at hz; split at hz <;> first | exact whole _ h.len hy ‹_› hz | cases hz
 | sl e=>intro x cs h off σ y d hy z hz hσ; simp only [Ze0] at hz; split at hz <;> first | exact whole _ h.len hy ‹_› hz | cases hz
 | q=>intro x cs h off σ y d hy z hz hσ; simp only [Ze0] at hz; split at hz <;> first | exact whole _ h.len hy ‹_› hz | cases hz
theorem typed_at {F':Nat -> Prop} {mf:Hp} (h:Mem G w0 Ob A B F μ m w) (h':Mem G w0 Ob A B F' μ mf w) (sub:∀ b,F b -> F' b) {v:V} {cv:Value} (hr:R F B w μ v cv)
  (hfz:∀ b ∈ arrs v,mf.at b = toFz (m.at b)) {τ:Ty} {x:D τ} (hl:Zgh m τ v = some x):RC F' w τ x cv.cells.toList:=by
 have hin:In F' μ m w (arrs v):=by
  constructor
  · intro b hb σ l q ad e0 e1 e2
    obtain ⟨q',e3,_,_,_,_,k⟩:=h'.box b (.fz σ l) (by rw [hfz b hb,e0]; rfl)
    rw [e1] at e3; cases e3
    exact (k ad e2).2.1
  · intro b hb σ l q ad e0 e1 e2
    obtain ⟨q',e3,_,_,_,_,k⟩:=h'.box b (.fz σ l) (by rw [hfz b hb,e0]; rfl)
    rw [e1] at e3; cases e3
    exact (k ad e2).2
 have kk:=typed_ok h sub hr hin hl
 have wrap:RC F' w τ x [cv] -> (∀ c,cv = .agg c -> False) -> RC F' w τ x cv.cells.toList:=fun h1 h2=>by
  have:cv.cells.toList = [cv]:=by cases cv <;> first | rfl | exact absurd rfl (fun e=>h2 _ e)
  rw [this]; exact h1
 cases ha:τ.agg with
 | true=>obtain ⟨cs,rfl,k⟩:=kk.1 ha; exact k
 | false =>
   have k:=kk.2 ha
   refine wrap k (fun c e=>?_)
   have:=k.one cv (by simp)
   subst e; cases this
theorem typed_cells (h:Mem G w0 Ob A B F μ m w) {v:V} {cv:Value} (hr:R F B w μ v cv) {τ:Ty} {x:D τ} (hl:Zgh m τ v = some x) :
  ∃ F',Mem G w0 Ob A B F' μ (frz m v) w /\ Tr B F F' μ μ w w /\ RC F' w τ x cv.cells.toList:=by
 obtain ⟨F',h',tr⟩:=h.frz v
 refine ⟨F',h',tr,typed_at h h' tr.sub hr (fun b hb=>?_) hl⟩
 rw [frz_at,if_pos hb]
theorem frzF_at (vs:List V):∀ (m:Hp) (c:Nat),Hp.at (vs.foldl frz m) c = if ∃ v ∈ vs,c ∈ arrs v then toFz (m.at c) else m.at c:=by
 induction vs with
 | nil=>intro m c; simp
 | cons v r ih =>
   intro m c
   rw [List.foldl_cons,ih,frz_at]
   by_cases h1:c ∈ arrs v <;> by_cases h2:∃ u ∈ r,c ∈ arrs u
   · simp [h1,h2,toFz_toFz]
   · have:¬ ∃ u,u ∈ r /\ c ∈ arrs u:=h2
     simp [h1,this]
   · have:∃ u,u ∈ r /\ c ∈ arrs u:=h2
     simp [h1,this]
   · have:¬ ∃ u,u ∈ r /\ c ∈ arrs u:=h2
     simp [h1,this]
theorem Mem.bare (h:Mem G w0 Ob A B F μ m w):Mem G w0 Ob A B F μ [] w :=
 ⟨h.ext,fun b x hx=>by simp [Hp.at,look] at hx,fun b x q ad hx=>by simp [Hp.at,look] at hx,fun b b' x x' q q' ad ad' hx=>by simp [Hp.at,look] at hx,h.fz,h.bz,h.glob,fun _ _=>False,⟨fun b x q e=>(by simp [Hp.at,look] at e),fun b x c e=>(by simp [Hp.at,look] at e),fun b x c b' x' q ad e=>(by simp [Hp.at,look] at e),fun b b' x x' c e=>(by simp [Hp.at,look] at e)⟩⟩
theorem arrs_scal (v:Value):Ze3 (scal v) = []:=by unfold scal; split <;> rfl
end
end Go.E
namespace Go.E
open Go Go.RowKit
section
variable {P:Program} {E:Env} {G:List (Nat × List V)} {w0:World} {Ob A B F:Nat -> Prop} {μ:Mu} {m:Hp} {w:World} {base:Nat} {s:St} {a:Act} {v:V} {m':Hp}
theorem exec_store {o:Oper} {t:Nat} {x y:Operand} (ho:o.op = .store t x y) {p:Addr} {w':World} (hx:a.eval x = .pointer (some p)) (hr:(storeVar t p (a.eval y)).run P w = .ok () w'):(execOp a.eval o).run P w = .ok .skip w':=by
 unfold execOp; rw [ho]; simp [hx,Instr.storeAt,Instr.sureAddr,hr]
theorem Zgu.set {τ:Ty} {r:List (D τ)} {ad:Addr} (h:Zgu F w τ r ad) {cap:Nat} (hst:Stor w ad.block ad.off (cap * τ.width)) (hcap:r.length <= cap) {i:Nat} {z z':D τ} (hi:r[i]? = some z) {c us:List Value} {off:Nat}
  (hc:RC F w τ z c) (hcc:Zdz w ad.block (ad.off + i * τ.width) c) (hz:RC F w τ z' (c.take off ++ us ++ c.drop (off + us.length))) (hn:off + us.length <= c.length)
  (hF:Keep F w (w.setCells ad.block (ad.off + (i * τ.width + off)) us)) :
  Zgu F (w.setCells ad.block (ad.off + (i * τ.width + off)) us) τ (r.set i z') ad:=fun j x hj=>by
 have hlen:=hc.len
 have hilt:i < r.length:=(List.getElem?_eq_some_iff.1 hi).1
 have hmul:i * τ.width + τ.width <= cap * τ.width:=by rw [← Nat.succ_mul]; exact Nat.mul_le_mul_right _ (by omega)
 by_cases hji:j = i
 · subst hji
   rw [List.getElem?_set_self hilt] at hj
   cases hj
   refine ⟨_,hz.mono (fun _ y=>y) hF,?_⟩
   have hs:Stor w ad.block (ad.off + j * τ.width) c.length:=fun k hk=>by
    have:=hst (j * τ.width + k) (by omega)
    rwa [← Nat.add_assoc] at this
   have:=cells_splice hcc hs hn
   rwa [Nat.add_assoc] at this
 · rw [List.getElem?_set_ne (fun e=>hji e.symm)] at hj
   obtain ⟨d,k1,k2⟩:=h j x hj
   refine ⟨d,k1.mono (fun _ y=>y) hF,fun k cv hk=>?_⟩
   have hdl:=k1.len
   have hkl:k < τ.width:=by rw [← hdl]; exact (List.getElem?_eq_some_iff.1 hk).1
   rw [World.cell?_setCells_out _ _ _ _ _ (fun _ _=>?_)]
   · exact k2 k cv hk
   · simp only
     rcases Nat.lt_or_gt_of_ne hji with hlt | hgt
     · left
       have:j * τ.width + τ.width <= i * τ.width:=by rw [← Nat.succ_mul]; exact Nat.mul_le_mul_right _ hlt
       omega
     · right
       have:i * τ.width + τ.width <= j * τ.width:=by rw [← Nat.succ_mul]; exact Nat.mul_le_mul_right _ hgt
       omega
theorem good_store (h:Pre P E w0 Ob A B F μ s a w) {o:Oper} {t:Nat} {x y:Operand} (ho:o.op = .store t x y) (hnd:¬ DeepEp s (opnd E s x)) (hf:opF E o.op base s = some (v,m')):Good P E.G w0 Ob A B F μ base o a w v m':=by
 rw [ho] at hf; simp only [opF,opK] at hf
 obtain ⟨l,hl0,hf⟩:=Zdy hf
 have hl:=h.env.lay t l hl0
 have hx:=h.ev x
 split at hf
 · rename_i b off e
   split at hf
   rotate_left
   · cases hf
   rename_i cs hb
   split at hf
   rotate_left
   · cases hf
   rename_i hc
   obtain ⟨c1,c2,c3⟩:=hc
   obtain ⟨rfl,rfl⟩:=Zbp hf
   rw [e] at hx; simp only [R] at hx
   obtain ⟨q0,e1,p,e2,e3⟩:=hx
   obtain ⟨q,e4,ad,vs,k1,k2,k3,k4,k5⟩:=h.mem.box b _ hb
   rw [e1] at e4; cases e4
   obtain ⟨ad',e5,rfl⟩:=e3 q rfl
   rw [k1] at e5; cases e5
   have hcl:=RL.len k3
   have hne:opnd E s y ≠ .undef:=fun e=>by rw [e] at c3; simp [V.cells,oneV] at c3
   have hu:=cells_ok (h.ev y) hne
   have hul:=RL.len hu
   have hone:=oneL_ok hu c3
   obtain ⟨mem,tr⟩:=h.mem.write hb rfl e1 k1 (ad.off + off) (a.eval y).cells.toList
    (.cs (cs.take off ++ (opnd E s y).cells ++ cs.drop (off + l.ty.width))) rfl (by
     have tr:=Tr.setCells h.mem (h.mem.own b _ q ad hb rfl e1 k1).1 (h.mem.own b _ q ad hb rfl e1 k1).2.1 (ad.off + off) (a.eval y).cells.toList
     refine ⟨ad,vs.take off ++ (a.eval y).cells.toList ++ vs.drop (off + (a.eval y).cells.toList.length),k1,k2,?_,?_,?_⟩
     · refine tr.RL ((RL.app (k3.take off) hu).app ?_)
       rw [← hul,c1]; exact k3.drop _
     · exact cells_splice k4 (hcl ▸ k5) (by omega)
     · have:(cs.take off ++ (opnd E s y).cells ++ cs.drop (off + l.ty.width)).length = cs.length:=by simp; omega
       rw [this]; exact k5.set _ _ _)
   refine Good.skip (exec_store ho e2 ?_) ⟨mem,tr,fun _ _ h=>h⟩
   exact run_storeVar hl (by rw [← Array.length_toList]; omega) (fun k hk=>by have:=k5 (off + k) (by omega); rwa [← Nat.add_assoc] at this) hone
 · rename_i b i off e
   split at hf
   rotate_left
   · rename_i τ r k y0 o0 u0 hb
     exact absurd ⟨b,i,off,e,.inr ⟨τ,r,k,y0,o0,u0,hb⟩⟩ hnd
   · cases hf
   rename_i τ r hb
   split at hf
   rotate_left
   · cases hf
   rename_i u hu
   split at hf
   · cases hf
   rename_i hna
   obtain ⟨z,hz,hf⟩:=Zd0 hf
   split at hf
   rotate_left
   · cases hf
   rename_i z' hz'
   obtain ⟨rfl,rfl⟩:=Zbp hf
   rw [e] at hx; simp only [R] at hx
   obtain ⟨q0,e1,p,e2,e3⟩:=hx
   obtain ⟨F',h',tr0,hRC⟩:=typed_cells h.mem (h.ev y) hu
   have hb':(frz s.m (opnd E s y)).at b = some (.rows τ r):=by
    rw [frz_at,if_neg]; · exact hb
    intro hm; exact hna (by simp [namesArr,hm])
   obtain ⟨q,e4,k1,k2,k3,k4,k5⟩:=h'.box b _ hb'
   rw [e1] at e4; cases e4
   obtain ⟨ad,e5,rfl⟩:=e3 q rfl
   obtain ⟨g1,g2,g3⟩:=k5 ad e5
   obtain ⟨h0,hz⟩:=atL_some hz
   obtain ⟨c,j1,j2⟩:=g2 _ z hz
   obtain ⟨s1,s2⟩:=setOff_ok τ j1 hRC hz' hl.notUnit
   have own:=h'.own b _ q ad hb' rfl e1 e5
   have trw:=Tr.setCells h' own.1 own.2.1 (ad.off + (i.toNat * τ.width + off)) (a.eval y).cells.toList
   have hilt:i.toNat < r.length:=(List.getElem?_eq_some_iff.1 hz).1
   have hcw:=j1.len
   have hmul:i.toNat * τ.width + τ.width <= q.cap * τ.width:=by rw [← Nat.succ_mul]; exact Nat.mul_le_mul_right _ (by omega)
   obtain ⟨mem,tr⟩:=h'.write hb' rfl e1 e5 (ad.off + (i.toNat * τ.width + off)) (a.eval y).cells.toList (.rows τ (setL r i z')) rfl (by
    refine ⟨by rw [k1]; simp [setL],k2,k3,k4,fun ad' e'=>?_⟩
    rw [e5] at e'; cases e'
    exact ⟨g1,g2.set g3 (by omega) hz j1 j2 s1 s2 trw.keep,g3.set _ _ _⟩)
   refine Good.skip (exec_store ho e2 ?_) ⟨mem,tr0.trans tr,fun _ _ h=>h⟩
   rw [k3]
   refine run_storeVar hl (by rw [← Array.length_toList]; exact hRC.len) (fun k hk=>?_) hRC.one
   have hd:=hRC.len
   have:=g3 (i.toNat * τ.width + off + k) (by omega)
   rwa [show ad.off + (i.toNat * τ.width + off) + k = ad.off + (i.toNat * τ.width + off + k) by omega]
 · cases hf
end
end Go.E
namespace Go.E
open Go Go.RowKit
section
variable {P:Program} {E:Env} {G:List (Nat × List V)} {w0:World} {Ob A B F:Nat -> Prop} {μ:Mu} {m:Hp} {w:World} {base:Nat} {s:St} {a:Act} {v:V} {m':Hp}
theorem foldl_set (off:Nat):∀ (us:List Value) (k:Nat) (cells:Array Value),off + k + us.length <= cells.size ->
  ((us.zipIdx k).foldl (fun cs p=>cs.setIfInBounds (off + p.2) p.1) cells).toList = cells.toList.take (off + k) ++ us ++ cells.toList.drop (off + k + us.length)
 | [],k,cells,h=>by simp
 | u :: us,k,cells,h=>by
   simp only [List.length_cons] at h
   rw [List.zipIdx_cons,List.foldl_cons,foldl_set off us (k + 1) _ (by simp; omega)]
   have hl:cells.toList.length = cells.size:=Array.length_toList
   have e:(cells.setIfInBounds (off + k) u).toList = cells.toList.take (off + k) ++ u :: cells.toList.drop (off + k + 1):=by
    rw [Array.toList_setIfInBounds,List.set_eq_take_append_cons_drop,if_pos (by omega)]
   simp only [e,List.length_cons]
   have l1:(cells.toList.take (off + k)).length = off + k:=by simp; omega
   have t1:(cells.toList.take (off + k) ++ u :: cells.toList.drop (off + k + 1)).take (off + (k + 1)) = cells.toList.take (off + k) ++ [u]:=by
    rw [List.take_append,List.take_of_length_le (by omega),l1,show off + (k + 1) - (off + k) = 1 by omega]; rfl
   have t2:(cells.toList.take (off + k) ++ u :: cells.toList.drop (off + k + 1)).drop (off + (k + 1) + us.length) = cells.toList.drop (off + k + (us.length + 1)):=by
    rw [List.drop_append,List.drop_eq_nil_of_le (by omega),l1,show off + (k + 1) + us.length - (off + k) = us.length + 1 by omega,List.drop_succ_cons,List.drop_drop,List.nil_append]
    congr 1; omega
   rw [t1,t2]; simp
theorem fill_step {place:Nat -> Option (Nat × Nat)} {cells:Array Value} {i off size:Nat} {v:Value} {rest:List (Nat × Value)} (hp:place i = some (off,size)) (hs:v.cells.size = size) (ho:off + size <= cells.size) :
  ∃ cells',Instr.fill place cells ((i,v) :: rest) = Instr.fill place cells' rest /\ cells'.toList = cells.toList.take off ++ v.cells.toList ++ cells.toList.drop (off + size) /\ cells'.size = cells.size:=by
 have key:(v.cells.zipIdx.foldl (fun cs (c,j)=>cs.setIfInBounds (off + j) c) cells).toList = cells.toList.take off ++ v.cells.toList ++ cells.toList.drop (off + size):=by
  have:=foldl_set off v.cells.toList 0 cells (by simp; omega)
  rw [← Array.foldl_toList,Array.toList_zipIdx]
  simp only [Nat.add_zero,Array.length_toList,hs] at this
  rw [← this]
 refine ⟨v.cells.zipIdx.foldl (fun cs (c,j)=>cs.setIfInBounds (off + j) c) cells,?_,key,?_⟩
 · simp only [Instr.fill,hp]
   rw [if_neg]
   simp [hs]; omega
 · rw [← Array.length_toList,key]; simp; omega
theorem fill_agg (hE:EnvOk P E) (hev:∀ x,R F B w μ (opnd E s x) (a.eval x)) {fields:List Field} {places:List (Nat × Nat)}
  (hpl:∀ (i:Nat) f lu,fields[i]? = some f -> look E.L f.type = some lu -> places[i]? = some (f.offset,lu.ty.width)) :
  ∀ (parts:List (Nat × Operand)) (cs:List V) (cells:Array Value),RL F B w μ cs cells.toList -> ∀ cs',fillAgg E (fields.map fun f=>(f.offset,f.type)) cs (Ze9 E s parts) = some cs' ->
    ∃ cells',Instr.fill (places.toArray[·]?) cells (parts.map fun p=>(p.1,a.eval p.2)) = some cells' /\ RL F B w μ cs' cells'.toList
 | [],cs,cells,hr,cs',hf=>by
   simp only [Ze9,List.map_nil,fillAgg,Option.some.injEq] at hf
   subst hf
   exact ⟨cells,rfl,hr⟩
 | (i,x) :: parts,cs,cells,hr,cs',hf=>by
   simp only [Ze9,List.map_cons,fillAgg] at hf
   split at hf
   rotate_left
   · cases hf
   rename_i off u hi
   split at hf
   rotate_left
   · cases hf
   rename_i lu hlu
   split at hf
   rotate_left
   · cases hf
   rename_i hc
   obtain ⟨c1,c2,c3⟩:=hc
   simp only [List.getElem?_map,Option.map_eq_some_iff] at hi
   obtain ⟨f,hf1,hf2⟩:=hi
   cases hf2
   have hne:opnd E s x ≠ .undef:=fun e=>by rw [e] at c3; simp [V.cells,oneV] at c3
   have hu:=cells_ok (hev x) hne
   have hul:=RL.len hu
   have hcl:=RL.len hr
   obtain ⟨cells',k1,k2,k3⟩:=fill_step (place:=(places.toArray[·]?)) (cells:=cells) (i:=i) (v:=a.eval x) (rest:=parts.map fun p=>(p.1,a.eval p.2)) (off:=f.offset) (size:=lu.ty.width)
    (by simpa using hpl i f lu hf1 hlu) (by rw [← Array.length_toList]; omega) (by rw [← Array.length_toList]; omega)
   rw [List.map_cons,k1]
   refine fill_agg hE hev hpl parts _ cells' ?_ cs' hf
   rw [k2]
   exact ((hr.take _).app hu).app (hr.drop _)
theorem mapM_places (hE:EnvOk P E):∀ (fields:List Field),(∀ f ∈ fields,∃ lu,look E.L f.type = some lu) ->
  ∃ places,(fields.mapM fun f=>(P.info? f.type).map fun i=>(f.offset,i.size)) = some places /\ ∀ (i:Nat) f lu,fields[i]? = some f -> look E.L f.type = some lu -> places[i]? = some (f.offset,lu.ty.width)
 | [],_=>⟨[],by simp,fun i f lu h=>by simp at h⟩
 | f :: fields,h=>by
   obtain ⟨lu,hlu⟩:=h f (by simp)
   obtain ⟨places,k1,k2⟩:=mapM_places hE fields (fun g hg=>h g (by simp [hg]))
   obtain ⟨i,h1,h2,_⟩:=(hE.lay _ lu hlu).size
   refine ⟨(f.offset,lu.ty.width) :: places,by simp [List.mapM_cons,h1,h2,k1],fun j g lv hj hv=>?_⟩
   cases j with
   | zero=>simp at hj; subst hj; rw [hlu] at hv; cases hv; rfl
   | succ j=>simpa using k2 j g lv (by simpa using hj) hv
theorem good_build (h:Pre P E w0 Ob A B F μ s a w) {o:Oper} {t:Nat} {parts:Array (Nat × Operand)} (ho:o.op = .build t parts) (hf:opF E o.op base s = some (v,m')):Good P E.G w0 Ob A B F μ base o a w v m':=by
 rw [ho] at hf; simp only [opF,opK] at hf
 obtain ⟨l,hl,hf⟩:=Zdy hf
 have lay:=h.env.lay t l hl
 have hk:=lay.kind
 split at hf
 rotate_left
 · cases hf
 rename_i fs e
 rw [e] at hk
 obtain ⟨fields,hu,rfl,hfl,_⟩:=hk
 split at hf
 rotate_left
 · cases hf
 rename_i cs' hcs
 obtain ⟨rfl,rfl⟩:=Zbp hf
 obtain ⟨i,h1,h2,_,z,h3,h4⟩:=lay.size
 obtain ⟨places,p1,p2⟩:=mapM_places h.env fields.toList (fun f hf=>let ⟨lu,k,_⟩:=(hfl f hf).2; ⟨lu,k⟩)
 obtain ⟨cells',k1,k2⟩:=fill_agg h.env h.ev p2 parts.toList l.zero z.cells (h4 ▸ scalL_ok F B w μ _) cs' hcs
 refine Good.same h (cv:=.agg cells') ?_ (by simp only [R]; exact ⟨_,rfl,k2⟩)
 unfold execOp; rw [ho]
 have:=run_build (P:=P) w t (parts.map fun p=>(p.1,a.eval p.2)) cells' (by unfold Program.built; simp only [h1,hu,h3,p1]; simpa using k1)
 simp only [Sem.run_bind,this,Result.andThen_ok,Sem.run_pure]
end
end Go.E
namespace Go.E
open Go Go.RowKit
section
variable {P:Program} {E:Env} {G:List (Nat × List V)} {w0:World} {Ob A B F:Nat -> Prop} {μ:Mu} {m:Hp} {w:World} {base:Nat} {s:St} {a:Act} {v:V} {m':Hp}
theorem zero_ok (h:Mem G w0 Ob A B F μ m w) {t:Nat} {l:TL} (hl:Lay P E.L t l) {z:D l.ty} (hz:asm [] l.ty l.zero = some (z,[])):∃ zv,zv.cells.toList.map scal = l.zero /\ zv.cells.size = l.ty.width /\ (∀ w,(zeroValue t).run P w = .ok zv w) /\ RC F w l.ty z zv.cells.toList:=by
 obtain ⟨zv,h1,h2,h3⟩:=hl.run_zero
 refine ⟨zv,h1,h2,h3,?_⟩
 have hin:In F μ [] w (l.zero.flatMap Ze3):=by
  have e:l.zero.flatMap Ze3 = []:=by
   rw [← h1,List.flatMap_eq_nil_iff]
   intro v hv
   obtain ⟨c,_,rfl⟩:=List.mem_map.1 hv
   exact arrs_scal c
  rw [e]; exact In.nil
 obtain ⟨v1,v2,k1,k2,k3,_⟩:=asm_ok h.bare (fun _ x=>x) l.ty (h1 ▸ scalL_ok F B w μ zv.cells.toList) hin hz
 have:v2 = []:=by cases v2 with
  | nil=>rfl
  | cons _ _=>simp [RL] at k3
 subst this
 rw [List.append_nil] at k1
 rw [k1]; exact k2
theorem zeros_row (z:Array Value) (n i wd:Nat) (hz:z.size = wd) (hi:(i + 1) * wd <= n) (hw:wd ≠ 0):((((Array.range n).map (z[· % z.size]!)).toList.drop (i * wd)).take wd) = z.toList:=by
 apply List.ext_getElem?
 intro j
 rw [List.getElem?_take]
 split
 · rename_i hj
   have h1:i * wd + j < n:=by rw [Nat.succ_mul] at hi; omega
   rw [List.getElem?_drop]
   have h2:(i * wd + j) % wd = j:=by rw [Nat.mul_comm,Nat.mul_add_mod,Nat.mod_eq_of_lt hj]
   simp [h1,hz,h2]
   rw [Array.getElem!_eq_getD,Array.getD_eq_getD_getElem?]
   simp [hz ▸ hj]
 · rename_i hj
   rw [List.getElem?_eq_none (by simp [hz]; omega)]
theorem Zey.zeros {τ:Ty} {x:D τ} {z:Array Value} {n len:Nat} (hz:RC F w τ x z.toList) (hn:len * τ.width <= n) (hw:τ.width ≠ 0):Zey F w τ (List.replicate len x) ((Array.range n).map (z[· % z.size]!)).toList:=fun i y hy=>by
 rw [List.getElem?_replicate] at hy
 split at hy
 · rename_i hi
   cases hy
   have hs:z.size = τ.width:=by rw [← Array.length_toList]; exact hz.len
   rw [zeros_row z n i τ.width hs (Nat.le_trans (Nat.mul_le_mul_right _ (by omega)) hn) hw]
   exact hz
 · cases hy
theorem Zey.set {τ:Ty} {l:List (D τ)} {c us:List Value} {i:Nat} {x:D τ} (h:Zey F w τ l c) (hx:RC F w τ x us) (hi:i < l.length) (hc:l.length * τ.width <= c.length) :
  Zey F w τ (l.set i x) (c.take (i * τ.width) ++ us ++ c.drop (i * τ.width + τ.width)):=fun j y hy=>by
 have hl:=hx.len
 have hic:i * τ.width + τ.width <= c.length:=by rw [← Nat.succ_mul]; exact Nat.le_trans (Nat.mul_le_mul_right _ hi) hc
 have hlt:(c.take (i * τ.width)).length = i * τ.width:=by simp; omega
 by_cases hji:j = i
 · subst hji
   rw [List.getElem?_set_self hi] at hy; cases hy
   rw [List.append_assoc,List.drop_append,List.drop_eq_nil_of_le (by omega),hlt,Nat.sub_self,List.drop_zero,List.nil_append,List.take_append_of_le_length (by omega),List.take_of_length_le (by omega)]
   exact hx
 · rw [List.getElem?_set_ne (fun e=>hji e.symm)] at hy
   have k:=h j y hy
   have hjl:j < l.length:=(List.getElem?_eq_some_iff.1 hy).1
   have hjc:j * τ.width + τ.width <= c.length:=by rw [← Nat.succ_mul]; exact Nat.le_trans (Nat.mul_le_mul_right _ hjl) hc
   have e:((c.take (i * τ.width) ++ us ++ c.drop (i * τ.width + τ.width)).drop (j * τ.width)).take τ.width = (c.drop (j * τ.width)).take τ.width:=by
    apply List.ext_getElem?
    intro k
    rw [List.getElem?_take,List.getElem?_take]
    split
    · rename_i hk
      rw [List.getElem?_drop,List.getElem?_drop]
      rcases Nat.lt_or_gt_of_ne hji with hlt' | hgt
      · have:j * τ.width + τ.width <= i * τ.width:=by rw [← Nat.succ_mul]; exact Nat.mul_le_mul_right _ hlt'
        rw [List.append_assoc,List.getElem?_append_left (by omega),List.getElem?_take,if_pos (by omega)]
      · have:i * τ.width + τ.width <= j * τ.width:=by rw [← Nat.succ_mul]; exact Nat.mul_le_mul_right _ hgt
        rw [List.getElem?_append_right (by simp; omega),List.getElem?_drop]
        congr 1
        simp only [List.length_append,hlt,hl]; omega
    · rfl
   rw [e]; exact k
theorem fill_rows {F':Nat -> Prop} {mf:Hp} (h:Mem G w0 Ob A B F μ s.m w) (h':Mem G w0 Ob A B F' μ mf w) (sub:∀ b,F b -> F' b) (hev:∀ x,R F B w μ (opnd E s x) (a.eval x)) {τ:Ty} (hw:τ.width ≠ 0) :
  ∀ (parts:List (Nat × Operand)) (hfz:∀ p ∈ parts,∀ b ∈ arrs (opnd E s p.2),mf.at b = toFz (s.m.at b)) (rows:List (D τ)) (cells:Array Value),Zey F' w τ rows cells.toList -> cells.size = rows.length * τ.width ->
    ∀ rows',Ziy s.m τ rows (Ze9 E s parts) = some rows' -> ∃ cells',Instr.fill (fun i=>some (i * τ.width,τ.width)) cells (parts.map fun p=>(p.1,a.eval p.2)) = some cells' /\ Zey F' w τ rows' cells'.toList /\ cells'.size = rows'.length * τ.width /\ rows'.length = rows.length
 | [],_,rows,cells,hr,hs,rows',hf=>by
   simp only [Ze9,List.map_nil,Ziy,Option.some.injEq] at hf
   subst hf
   exact ⟨cells,rfl,hr,hs,rfl⟩
 | (i,x) :: parts,hfz,rows,cells,hr,hs,rows',hf=>by
   simp only [Ze9,List.map_cons,Ziy] at hf
   split at hf
   rotate_left
   · cases hf
   rename_i y hy
   split at hf
   rotate_left
   · cases hf
   rename_i hi
   have k:=typed_at h h' sub (hev x) (hfz (i,x) (by simp)) hy
   have kl:=k.len
   have hic:i * τ.width + τ.width <= cells.size:=by rw [hs,← Nat.succ_mul]; exact Nat.mul_le_mul_right _ hi
   obtain ⟨cells',k1,k2,k3⟩:=fill_step (place:=fun i=>some (i * τ.width,τ.width)) (cells:=cells) (i:=i) (v:=a.eval x) (rest:=parts.map fun p=>(p.1,a.eval p.2)) rfl (by rw [← Array.length_toList]; exact kl) hic
   rw [List.map_cons,k1]
   obtain ⟨cells2,j1,j2,j3,j4⟩:=fill_rows h h' sub hev hw parts (fun p hp=>hfz p (by simp [hp])) (rows.set i y) cells' (by rw [k2]; exact hr.set k hi (Nat.le_of_eq (by rw [← hs]; simp))) (by rw [k3,hs]; simp) rows' hf
   exact ⟨cells2,j1,j2,j3,by simpa using j4⟩
theorem good_buildSlice (h:Pre P E w0 Ob A B F μ s a w) (hb:Zgz μ base) {o:Oper} {t len:Nat} {parts:Array (Nat × Operand)} (ho:o.op = .buildSlice t len parts) (hnd:∀ τ r m2,m' ≠ (base,some (.dp τ r)) :: m2) (hf:opF E o.op base s = some (v,m')):Good P E.G w0 Ob A B F μ base o a w v m':=by
 rw [ho] at hf; simp only [opF,opK] at hf
 obtain ⟨l,e,le,hl,hk,hle,hf⟩:=Zg0 hf
 have hu:=(h.env.lay t l hl).kind
 rw [hk] at hu
 replace hu:=hu.1
 have lay:=h.env.lay e le hle
 split at hf
 · cases hf
 rename_i hsm
 obtain ⟨z,hz,hf⟩:=Zgj hf
 split at hf
 rotate_left
 · cases hf
 rename_i rows hrows
 split at hf
 rotate_left
 · split at hf
   · obtain ⟨_,e⟩:=Zbp hf
     exact absurd e.symm (hnd _ _ _)
   · cases hf
 obtain ⟨rfl,rfl⟩:=Zbp hf
 obtain ⟨F',h',tr⟩:=Mem.frzF ((Ze9 E s parts.toList).map (·.2)) h.mem
 obtain ⟨zv,z1,z2,z3,z4⟩:=zero_ok h' lay hz
 obtain ⟨i,i1,i2,_,zi,i3,i4⟩:=lay.size
 have hzi:zi = zv:=by
  have:=z3 w
  simp [zeroValue,typeInfo,i1,i3] at this
  exact this
 subst hzi
 have hr0:Zey F' w le.ty (List.replicate len z) ((Array.range (len * le.ty.width)).map (zi.cells[· % zi.cells.size]!)).toList:=Zey.zeros z4 (Nat.le_refl _) lay.pos
 obtain ⟨cells',k1,k2,k3,k4⟩:=fill_rows (a:=a) h.mem h' tr.sub h.ev lay.pos parts.toList (fun p hp b hb'=>by
   rw [frzF_at,if_pos]
   exact ⟨_,List.mem_map.2 ⟨(p.1,opnd E s p.2),List.mem_map.2 ⟨p,hp,rfl⟩,rfl⟩,hb'⟩) _ _ hr0 (by simp) rows hrows
 simp only [List.length_replicate] at k4
 obtain ⟨μ',st,r⟩:=newRows h' hb cells' e (0,0) le.ty rows len (by omega) (by rw [k3,k4]; exact Nat.le_refl _) (fun k hk=>by simp) k2
 have st':Step1 E.G w0 Ob A B F μ w base F' μ' ((base,some (.rows le.ty rows)) :: ((Ze9 E s parts.toList).map (·.2)).foldl frz s.m) (w.alloc (.cells cells' e)):=⟨st.mem,tr.trans st.tr,st.loc⟩
 rw [k4] at r
 refine Good.value ?_ st' r
 unfold execOp; rw [ho]
 have hfill:Instr.fill (fun i=>some (i * le.ty.width,le.ty.width)) ((Array.range (len * le.ty.width)).map (zi.cells[· % zi.cells.size]!)) (parts.map fun p=>(p.1,a.eval p.2)).toList = some cells':=by simpa using k1
 by_cases h0:len * le.ty.width = 0
 · have hl0:len = 0:=by
     rcases Nat.mul_eq_zero.1 h0 with h | h
     · exact h
     · exact absurd h lay.pos
   subst hl0
   rw [Nat.zero_mul] at hfill
   have e0:(Array.range 0).map (fun x=>zi.cells[x % zi.cells.size]!) = #[]:=by rw [Array.range_zero',Array.map_empty]
   rw [e0] at hfill
   have hb':(Instr.buildSlice t 0 (parts.map fun p=>(p.1,a.eval p.2))).run P w = .ok (.slice (some ⟨w.heap.size,0,none⟩) 0 0) (w.alloc (.cells cells' e)):=by
    unfold Instr.buildSlice
    simp only [Sem.run_bind,run_underlying hu,Result.andThen_ok,lay.run_size,Nat.zero_mul]
    simp only [if_neg (by omega:¬ (0 > 2 ^ 24)),if_true,Sem.run_bind,Sem.run_pure,Result.andThen_ok]
    have e1:(Array.range 0).map (fun x=>(#[]:Array Value)[x % (#[]:Array Value).size]!) = #[]:=by rw [Array.range_zero',Array.map_empty]
    rw [e1,hfill]
    simp only [Sem.run_bind,run_newRow,Result.andThen_ok,Sem.run_pure]
   simp only [Sem.run_bind,hb',Result.andThen_ok,Sem.run_pure]
 · have:=run_buildSlice (P:=P) w t e len (parts.map fun p=>(p.1,a.eval p.2)) cells' i zi hu i1 i3 (by rw [i2]; omega) (by rw [i2]; exact h0) (by rw [i2]; exact hfill)
   simp only [Sem.run_bind,this,Result.andThen_ok,Sem.run_pure]
end
end Go.E
namespace Go.E
open Go Go.RowKit
section
variable {P:Program} {E:Env} {G:List (Nat × List V)} {w0:World} {Ob A B F:Nat -> Prop} {μ:Mu} {m:Hp} {w:World} {base:Nat} {s:St} {a:Act} {v:V} {m':Hp}
theorem Zfd {o:Oper} {c:Call} {b:Builtin} (ho:o.op = .call c) (hc:c.callee = .builtin b) {cv:Value} {w':World}
  (hr:(builtin b c.argTypes o.type (c.args.map fun | .const _=>true | _=>false) (c.args.map a.eval)).run P w = .ok (.value cv) w'):(execOp a.eval o).run P w = .ok (.value cv) w':=by
 unfold execOp; rw [ho]
 simp only [resolve,hc,Sem.run_bind,Sem.run_pure,Result.andThen_ok,invoke]
 exact hr
theorem list_two {α β:Type} {f:α -> β} {l:List α} {x y:β} (h:l.map f = [x,y]):∃ p q,l = [p,q] /\ f p = x /\ f q = y:=by
 match l,h with
 | [p,q],h=>simp at h; exact ⟨p,q,rfl,h.1,h.2⟩
theorem list_one {α β:Type} {f:α -> β} {l:List α} {x:β} (h:l.map f = [x]):∃ p,l = [p] /\ f p = x:=by
 match l,h with
 | [p],h=>simp at h; exact ⟨p,rfl,h⟩
theorem list_three {α β:Type} {f:α -> β} {l:List α} {x y z:β} (h:l.map f = [x,y,z]):∃ p q r,l = [p,q,r] /\ f p = x /\ f q = y /\ f r = z:=by
 match l,h with
 | [p,q,r],h=>simp at h; exact ⟨p,q,r,rfl,h.1,h.2.1,h.2.2⟩
theorem Zfp {α:Type} {l:Array α} {x:List α} (h:l.toList = x):l = x.toArray:=by cases l; simp at h; rw [h]
theorem good_len (h:Pre P E w0 Ob A B F μ s a w) {o:Oper} {c:Call} (ho:o.op = .call c) (hc:c.callee = .builtin .len) {x:V} (hx:c.args.toList.map (opnd E s) = [x]) {t:Nat} {ts:List Nat} (hts:c.argTypes.toList = t :: ts)
  (hf:Zea E .len (t :: ts) [x] base s.m (fun v m=>some (v,m)) = some (v,m')):Good P E.G w0 Ob A B F μ base o a w v m':=by
 obtain ⟨p,hp,rfl⟩:=list_one hx
 have hargs:c.args = #[p]:=Zfp hp
 simp only [Zea] at hf
 obtain ⟨l,hl,hf⟩:=Zdy hf
 have hk:=(h.env.lay _ l hl).kind
 have hr:=h.ev p
 have ht:c.argTypes[0]? = some t:=by
  have:c.argTypes.toList[0]? = some t:=by rw [hts]; rfl
  simpa using this
 have fin:∀ {n:Int},(Builtin.len_ c.argTypes o.type (c.args.map a.eval)).run P w = .ok (goInt n) w -> v = .val (.int .i64) n -> m' = s.m -> Good P E.G w0 Ob A B F μ base o a w v m':=by
  intro n e1 e2 e3
  subst e2 e3
  exact Good.same h (cv:=goInt n) (Zfd ho hc (by simp only [builtin,Sem.run_bind,e1,Result.andThen_ok,Sem.run_pure])) (Zib _ _)
 have e0:(c.args.map a.eval)[0]? = some (a.eval p):=by rw [hargs]; simp
 split at hf
 · rename_i e; rw [e] at hk
   split at hf
   · rename_i b e1
     obtain ⟨rfl,rfl⟩:=Zbp hf
     have ex:=R_str (e1 ▸ hr)
     refine fin (n:=b.size) ?_ rfl rfl
     simp [Builtin.len_,ht,e0,run_underlying hk.1,ex]
   · cases hf
 · rename_i e' e; rw [e] at hk
   have key:∀ {ad:Option Addr} {n cap:Nat},a.eval p = .slice ad n cap -> v = .val (.int .i64) (n:Int) -> m' = s.m -> Good P E.G w0 Ob A B F μ base o a w v m':=by
    intro ad n cap ex e2 e3
    refine fin (n:=n) ?_ e2 e3
    simp [Builtin.len_,ht,e0,run_underlying hk.1,ex]
   split at hf
   · rename_i τ r e1
     obtain ⟨rfl,rfl⟩:=Zbp hf
     rw [e1] at hr
     simp only [R,Ty.agg,RC] at hr
     obtain ⟨ad,cap,e2,_⟩:=hr
     exact key (by simpa using e2) rfl rfl
   · rename_i e1
     obtain ⟨rfl,rfl⟩:=Zbp hf
     rw [e1] at hr; simp only [R] at hr
     exact key hr rfl rfl
   · rename_i b e1
     rw [e1] at hr; simp only [R] at hr
     obtain ⟨q,e2,p1,p2,p3,e3,e4⟩:=hr
     split at hf
     · rename_i τ r hb
       obtain ⟨rfl,rfl⟩:=Zbp hf
       obtain ⟨q',e5,k1,_⟩:=h.mem.box b _ hb
       rw [e2] at e5; cases e5
       obtain ⟨rfl,rfl,rfl⟩:=e4 q' rfl
       exact key e3 (by rw [k1]; rfl) rfl
     · rename_i τ r hb
       obtain ⟨rfl,rfl⟩:=Zbp hf
       obtain ⟨q',e5,k1,_⟩:=h.mem.box b _ hb
       rw [e2] at e5; cases e5
       obtain ⟨rfl,rfl,rfl⟩:=e4 q' rfl
       exact key e3 (by rw [k1]; rfl) rfl
     · rename_i τ r hb
       obtain ⟨rfl,rfl⟩:=Zbp hf
       obtain ⟨q',e5,k1,_⟩:=h.mem.box b _ hb
       rw [e2] at e5; cases e5
       obtain ⟨rfl,rfl,rfl⟩:=e4 q' rfl
       exact key e3 (by rw [k1]; rfl) rfl
     · rename_i τ r k0 y0 o0 u0 hb
       obtain ⟨rfl,rfl⟩:=Zbp hf
       obtain ⟨q',e5,⟨k1,_⟩,_⟩:=h.mem.box b _ hb
       rw [e2] at e5; cases e5
       obtain ⟨rfl,rfl,rfl⟩:=e4 q' rfl
       exact key e3 (by rw [k1]; rfl) rfl
     · cases hf
   · cases hf
 · cases hf
end
end Go.E
namespace Go.E
open Go Go.RowKit
section
variable {P:Program} {E:Env} {G:List (Nat × List V)} {w0:World} {Ob A B F:Nat -> Prop} {μ:Mu} {m:Hp} {w:World} {base:Nat} {s:St} {a:Act} {v:V} {m':Hp}
theorem good_min2 (h:Pre P E w0 Ob A B F μ s a w) {o:Oper} {c:Call} (ho:o.op = .call c) (hc:c.callee = .builtin .min) {k:IntKind} {x y:Int} (hx:c.args.toList.map (opnd E s) = [.val (.int k) x,.val (.int k) y])
  (hv:v = .val (.int k) (minI x y)) (hm:m' = s.m):Good P E.G w0 Ob A B F μ base o a w v m':=by
 obtain ⟨p,q,hp,e1,e2⟩:=list_two hx
 have h1:=Ziu (e1 ▸ h.ev p); have h2:=Ziu (e2 ▸ h.ev q)
 have hargs:c.args = #[p,q]:=Zfp hp
 subst hv hm
 refine Good.same h (cv:=.int k (minI x y)) (Zfd ho hc ?_) (Zib _ _)
 rw [hargs]
 simp [builtin,Builtin.min_,h1,h2,Builtin.min2,minI]
theorem good_max2 (h:Pre P E w0 Ob A B F μ s a w) {o:Oper} {c:Call} (ho:o.op = .call c) (hc:c.callee = .builtin .max) {k:IntKind} {x y:Int} (hx:c.args.toList.map (opnd E s) = [.val (.int k) x,.val (.int k) y])
  (hv:v = .val (.int k) (maxI x y)) (hm:m' = s.m):Good P E.G w0 Ob A B F μ base o a w v m':=by
 obtain ⟨p,q,hp,e1,e2⟩:=list_two hx
 have h1:=Ziu (e1 ▸ h.ev p); have h2:=Ziu (e2 ▸ h.ev q)
 have hargs:c.args = #[p,q]:=Zfp hp
 subst hv hm
 refine Good.same h (cv:=.int k (maxI x y)) (Zfd ho hc ?_) (Zib _ _)
 rw [hargs]
 simp [builtin,Builtin.max_,h1,h2,Builtin.max2,maxI]
theorem good_min3 (h:Pre P E w0 Ob A B F μ s a w) {o:Oper} {c:Call} (ho:o.op = .call c) (hc:c.callee = .builtin .min) {k:IntKind} {x y z:Int} (hx:c.args.toList.map (opnd E s) = [.val (.int k) x,.val (.int k) y,.val (.int k) z])
  (hv:v = .val (.int k) (minI (minI x y) z)) (hm:m' = s.m):Good P E.G w0 Ob A B F μ base o a w v m':=by
 obtain ⟨p,q,r,hp,e1,e2,e3⟩:=list_three hx
 have h1:=Ziu (e1 ▸ h.ev p); have h2:=Ziu (e2 ▸ h.ev q); have h3:=Ziu (e3 ▸ h.ev r)
 have hargs:c.args = #[p,q,r]:=Zfp hp
 subst hv hm
 refine Good.same h (cv:=.int k (minI (minI x y) z)) (Zfd ho hc ?_) (Zib _ _)
 rw [hargs]
 simp [builtin,Builtin.min_,h1,h2,h3,Builtin.min2,minI]
 try rfl
theorem exec_convert {o:Oper} {src dst:Nat} {x:Operand} (ho:o.op = .convert src dst x) {cv:Value} {w':World} (hr:(convert src dst (a.eval x)).run P w = .ok cv w'):(execOp a.eval o).run P w = .ok (.value cv) w':=by
 unfold execOp; rw [ho]; simp only [Sem.run_bind,hr,Result.andThen_ok,Sem.run_pure]
theorem bytes_at {l:List (D (.int .u8))} {ad:Addr} (hs:ad.spot = none) (hr:Zgu F w (.int .u8) l ad):(loadCells ad l.length).run P w = .ok (l.map (Value.int .u8)).toArray w:=by
 have:=run_loadCells_list (P:=P) w ad (l.map (Value.int .u8)) (fun j v hj=>by
  simp only [List.getElem?_map,Option.map_eq_some_iff] at hj
  obtain ⟨n,hn,rfl⟩:=hj
  obtain ⟨c,k1,k2⟩:=hr j n hn
  simp only [RC] at k1; subst k1
  obtain ⟨b,o,sp⟩:=ad
  simp at hs; subst hs
  rw [Zd8]
  have:=k2 0 _ rfl
  simpa [Ty.width] using this)
 simpa using this
theorem strOf_foldl (l:List Int):l.foldl (fun r n=>r.push (UInt8.ofNat n.toNat)) ByteArray.empty = strOf l:=by
 have:∀ (l:List Int) (b:ByteArray),(l.foldl (fun r n=>r.push (UInt8.ofNat n.toNat)) b) = ⟨b.data ++ (l.map fun n=>UInt8.ofNat n.toNat).toArray⟩:=by
  intro l
  induction l with
  | nil=>intro b; simp
  | cons n l ih=>intro b; rw [List.foldl_cons,ih]; simp [ByteArray.push]
 rw [this]; simp [strOf,ByteArray.empty,ByteArray.emptyWithCapacity]; rfl
theorem good_convert (h:Pre P E w0 Ob A B F μ s a w) (hb:Zgz μ base) {o:Oper} {src dst:Nat} {x:Operand} (ho:o.op = .convert src dst x) (hf:opF E o.op base s = some (v,m')):Good P E.G w0 Ob A B F μ base o a w v m':=by
 rw [ho] at hf; simp only [opF,opK] at hf
 obtain ⟨ls,hls,hf⟩:=Zdy hf
 obtain ⟨l,hl,hf⟩:=Zdy hf
 have hx:=h.ev x
 have ks:=(h.env.lay _ ls hls)
 have kl:=(h.env.lay _ l hl).kind
 split at hf
 · rename_i k e; rw [e] at kl
   split at hf
   · rename_i k' n e1
     obtain ⟨rfl,rfl⟩:=Zbp hf
     have ex:=Ziu (e1 ▸ hx)
     obtain ⟨d,hd,_⟩:=ks.und
     refine Good.same h (cv:=.int k (Zhv k n)) (exec_convert ho ?_) (Zib _ _)
     rw [ex]; simp [convert,run_underlying hd,run_underlying kl.1,Conv.intToInt,Zhv]
   · cases hf
 · rename_i e' e; rw [e] at kl
   obtain ⟨le,hle,hf⟩:=Zdy hf
   have ke:=(h.env.lay _ le hle).kind
   split at hf
   · rename_i q1 q2
     have ks:=ks.kind
     rw [q1] at ks; rw [q2] at ke
     split at hf
     · rename_i b e1
       obtain ⟨rfl,rfl⟩:=Zbp hf
       have ex:=R_str (e1 ▸ hx)
       have run:=run_bytes_of_string (P:=P) w src dst e' b ks.1 kl.1 ke.1
       have hge:=grownCap_ge w b.size 0 e'
       have hsz:(bytesRow b (grownCap w b.size 0 e')).size = grownCap w b.size 0 e':=by
        unfold bytesRow; simp
        have:b.data.size = b.size:=rfl
        omega
       obtain ⟨μ',st,r⟩:=newRows (h.mem.drew) hb (bytesRow b (grownCap w b.size 0 e')) e' ((bytesRow b (grownCap w b.size 0 e')).size,(bytesRow b (grownCap w b.size 0 e')).size + 1) (.int .u8) (Zgb b) (grownCap w b.size 0 e')
        (by simp [Zgb]; exact hge) (by simp [Ty.width,hsz]) (fun k hk=>by simp [Ty.width] at hk; simp; omega) (fun i n hi=>by
         simp only [Zgb,List.getElem?_map,Option.map_eq_some_iff] at hi
         obtain ⟨c,hc,rfl⟩:=hi
         have hlt:i < b.data.size:=by have:=(List.getElem?_eq_some_iff.1 hc).1; simpa using this
         have hrow:=bytesRow_at b (grownCap w b.size 0 e') i hlt
         have hce:b.data[i] = c:=by have:=(List.getElem?_eq_some_iff.1 hc).2; simpa using this
         rw [hce] at hrow
         simp only [RC,Ty.width,Nat.mul_one]
         have:((bytesRow b (grownCap w b.size 0 e')).toList)[i]? = some (.int .u8 (c.toNat:Int)):=by simpa using hrow
         apply List.ext_getElem?
         intro j
         rw [List.getElem?_take]
         cases j with
         | zero=>simp [List.getElem?_drop,this]
         | succ j=>simp)
       have st':Step1 E.G w0 Ob A B F μ w base F μ' ((base,some (.rows (.int .u8) (Zgb b))) :: s.m) _:=⟨st.mem,⟨st.tr.sub,st.tr.keep,st.tr.keepB,st.tr.mu⟩,st.loc⟩
       have hlen:(Zgb b).length = b.size:=by simp [Zgb]
       rw [hlen] at r
       exact Good.value (exec_convert ho (by rw [ex]; exact run)) st' r
     · cases hf
   · cases hf
 · rename_i e; rw [e] at kl
   split at hf
   · rename_i e' q1
     have ks:=ks.kind
     rw [q1] at ks
     obtain ⟨le,hle,hf⟩:=Zdy hf
     have ke:=(h.env.lay _ le hle).kind
     split at hf
     · rename_i q2; rw [q2] at ke
       split at hf
       · rename_i r hr
         obtain ⟨rfl,rfl⟩:=Zbp hf
         obtain ⟨ad,cap,sl⟩:=Zid (X:=fun _=>True) h.mem (fun _ _=>trivial) hx (fun _ _ _ _ _ _ _ _ _=>trivial) hr
         refine Good.same h (cv:=.string (strOf r)) (exec_convert ho ?_) (mk_str _)
         rw [sl.val,run_convert_bytes_string w src dst e' ad r.length cap ks.1 ke.1 kl.1]
         cases ad with
         | none =>
           have h0:=sl.nil rfl; have h1:=sl.le
           have:r = []:=List.length_eq_zero_iff.1 (by omega)
           subst this
           simp [Conv.bytesToString,strOf]
           first | done | rfl
         | some ad =>
           by_cases hc0:0 < r.length
           · obtain ⟨g1,_,g3⟩:=sl.at_ ad rfl hc0
             rw [run_bytesToString w ad r.length cap r (bytes_at g1 g3),strOf_foldl]
           · have hr0:r = []:=List.length_eq_zero_iff.1 (by omega)
             subst hr0
             rw [run_bytesToString w ad _ cap ([]:List Int) rfl,strOf_foldl]
       · cases hf
     · cases hf
   · cases hf
 · cases hf
end
end Go.E
namespace Go.E
open Go Go.RowKit
section
variable {P:Program} {E:Env} {G:List (Nat × List V)} {w0:World} {Ob A B F X:Nat -> Prop} {μ:Mu} {m:Hp} {w:World} {base:Nat} {s:St} {a:Act} {v:V} {m':Hp}
def Zfb (w:World) (b off n:Nat):List Value:=(List.range n).map fun k=>(w.cell? ⟨b,off + k,none⟩).getD undef
theorem Zix {w:World} {b off n j:Nat} (hj:j < n):(Zfb w b off n)[j]? = some ((w.cell? ⟨b,off + j,none⟩).getD undef):=by
 simp [Zfb,hj]
theorem rows_cells {τ:Ty} {r:List (D τ)} {ad:Addr} (h:Zgu F w τ r ad) (hw:τ.width ≠ 0) :
  Zdz w ad.block ad.off (Zfb w ad.block ad.off (r.length * τ.width)) /\ Zey F w τ r (Zfb w ad.block ad.off (r.length * τ.width)) /\ (Zfb w ad.block ad.off (r.length * τ.width)).length = r.length * τ.width /\
   ∀ u ∈ Zfb w ad.block ad.off (r.length * τ.width),u.oneCell' = true:=by
 have hpos:0 < τ.width:=Nat.pos_of_ne_zero hw
 have at_:∀ k,k < r.length * τ.width -> ∃ u,w.cell? ⟨ad.block,ad.off + k,none⟩ = some u /\ u.oneCell' = true:=fun k hk=>by
  have hi:k / τ.width < r.length:=(Nat.div_lt_iff_lt_mul hpos).2 hk
  obtain ⟨c,k1,k2⟩:=h (k / τ.width) r[k / τ.width] (List.getElem?_eq_getElem hi)
  have hm:k % τ.width < c.length:=by rw [k1.len]; exact Nat.mod_lt _ hpos
  have:=k2 (k % τ.width) c[k % τ.width] (List.getElem?_eq_getElem hm)
  rw [show ad.off + k / τ.width * τ.width + k % τ.width = ad.off + k by rw [Nat.add_assoc,Nat.div_add_mod' k τ.width]] at this
  exact ⟨_,this,k1.one _ (List.getElem_mem hm)⟩
 refine ⟨fun j u hj=>?_,fun i x hi=>?_,by simp [Zfb],fun u hu=>?_⟩
 · have hlt:j < r.length * τ.width:=by have:=(List.getElem?_eq_some_iff.1 hj).1; simpa [Zfb] using this
   rw [Zix hlt] at hj
   obtain ⟨y,hy,_⟩:=at_ j hlt
   rw [hy] at hj ⊢; simpa using hj
 · obtain ⟨c,k1,k2⟩:=h i x hi
   have hil:i < r.length:=(List.getElem?_eq_some_iff.1 hi).1
   have hmul:i * τ.width + τ.width <= r.length * τ.width:=by rw [← Nat.succ_mul]; exact Nat.mul_le_mul_right _ hil
   have e:((Zfb w ad.block ad.off (r.length * τ.width)).drop (i * τ.width)).take τ.width = c:=by
    apply List.ext_getElem?
    intro j
    rw [List.getElem?_take]
    split
    · rename_i hj
      rw [List.getElem?_drop,Zix (by omega)]
      have hjc:j < c.length:=by rw [k1.len]; exact hj
      have:=k2 j c[j] (List.getElem?_eq_getElem hjc)
      rw [← Nat.add_assoc,this,List.getElem?_eq_getElem hjc]; rfl
    · rename_i hj
      rw [List.getElem?_eq_none (by rw [k1.len]; omega)]
   rw [e]; exact k1
 · obtain ⟨j,hj,rfl⟩:=List.getElem_of_mem hu
   have hlt:j < r.length * τ.width:=by simpa [Zfb] using hj
   obtain ⟨y,hy,h1⟩:=at_ j hlt
   simp [Zfb,hy,h1]
theorem Zey.more {τ:Ty} {l:List (D τ)} {c d:List Value} (h:Zey F w τ l c) (hc:l.length * τ.width <= c.length):Zey F w τ l (c ++ d):=fun i x hi=>by
 have hil:i < l.length:=(List.getElem?_eq_some_iff.1 hi).1
 have hmul:i * τ.width + τ.width <= l.length * τ.width:=by rw [← Nat.succ_mul]; exact Nat.mul_le_mul_right _ hil
 rw [List.drop_append_of_le_length (by omega),List.take_append_of_le_length (by simp; omega)]
 exact h i x hi
theorem Zey.app {τ:Ty} {l r:List (D τ)} {c d:List Value} (h:Zey F w τ l c) (hc:c.length = l.length * τ.width) (k:Zey F w τ r d):Zey F w τ (l ++ r) (c ++ d):=fun i x hi=>by
 by_cases hil:i < l.length
 · rw [List.getElem?_append_left hil] at hi
   exact (h.more (by omega)) i x hi
 · rw [List.getElem?_append_right (by omega)] at hi
   have e:i * τ.width = c.length + (i - l.length) * τ.width:=by rw [hc,← Nat.add_mul]; congr 1; omega
   rw [e,List.drop_append,List.drop_eq_nil_of_le (by omega),List.nil_append,Nat.add_sub_cancel_left]
   exact k _ x hi
theorem Zey.drewn {w':World} {τ:Ty} {l:List (D τ)} {c:List Value} (h:Zey F w τ l c) (hk:Keep F w w'):Zey F w' τ l c:=fun i x hi=>(h i x hi).mono (fun _ y=>y) hk
theorem src_of {u e':Nat} {l:TL} (hk:P.underlying u = some (.slice e')) (hw:l.ty.width ≠ 0) {r:List (D l.ty)} {cv:Value} {ad:Option Addr} {cap:Nat} (hs:SlR F X w l.ty r cv ad cap) :
  ∃ news,Src P l.ty.width u cv r.length news w /\ Zey F w l.ty r news:=by
 cases ad with
 | none =>
   have h0:=hs.nil rfl; have h1:=hs.le
   have:r = []:=List.length_eq_zero_iff.1 (by omega)
   subst this
   refine ⟨[],?_,fun i x hi=>by simp at hi⟩
   rw [hs.val]
   exact Src.ofNil w hk cap
 | some ad =>
   by_cases hc0:0 < r.length
   rotate_left
   · have hr0:r = []:=List.length_eq_zero_iff.1 (by omega)
     subst hr0
     refine ⟨[],?_,fun i x hi=>by simp at hi⟩
     rw [hs.val]
     exact Src.ofSlice w hk ad 0 cap [] (by simp) (fun j u hj=>by simp at hj) (fun u hu=>by cases hu)
   obtain ⟨g1,_,g3⟩:=hs.at_ ad rfl hc0
   obtain ⟨k1,k2,k3,k4⟩:=rows_cells g3 hw
   refine ⟨_,?_,k2⟩
   rw [hs.val]
   exact Src.ofSlice w hk ad r.length cap _ k3 (fun j u hj=>by
    obtain ⟨b,o,sp⟩:=ad
    simp at g1; subst g1
    rw [Zd8]; exact k1 j u hj) k4
theorem Zgl {o:Oper} {c:Call} (ho:o.op = .call c) (hc:c.callee = .builtin .append) {t u:Nat} (hts:c.argTypes.toList = [t,u]) {p q:Operand} (hp:c.args.toList = [p,q]) {cv:Value} {w':World}
  (hr:(Builtin.append_ #[t,u] o.type #[a.eval p,a.eval q]).run P w = .ok cv w'):(execOp a.eval o).run P w = .ok (.value cv) w':=by
 refine Zfd ho hc ?_
 have h1:c.argTypes = #[t,u]:=Zfp hts
 have h2:c.args = #[p,q]:=Zfp hp
 rw [h1,h2]
 simp [builtin,hr]
theorem append_grow (h:Mem G w0 Ob A B F μ m w) (hb:Zgz μ base) {e:Nat} {l:TL} {L:List (Nat × TL)} (lay:Lay P L e l) {q r:List (D l.ty)} {olds news:List Value} (ho:Zey F w l.ty q olds) (hol:olds.length = q.length * l.ty.width)
  (hn:Zey F w l.ty r news) (hnl:news.length = r.length * l.ty.width) {z:Value} (hz:z.cells.size = l.ty.width) (old:Nat) :
  ∃ μ',Step1 G w0 Ob A B F μ w base F μ' ((base,some (.rows l.ty (q ++ r))) :: m) (w.drew.alloc (.cells ((olds ++ news).toArray ++ Builtin.zeroCells z.cells (grownCap w (q.length + r.length) old e - (q.length + r.length))) e)) /\
    R F B (w.drew.alloc (.cells ((olds ++ news).toArray ++ Builtin.zeroCells z.cells (grownCap w (q.length + r.length) old e - (q.length + r.length))) e)) μ' (.arr base) (.slice (some ⟨w.heap.size,0,none⟩) (q.length + r.length) (grownCap w (q.length + r.length) old e)):=by
 have hge:=grownCap_ge w (q.length + r.length) old e
 obtain ⟨μ',st,k⟩:=newRows h.drew hb ((olds ++ news).toArray ++ Builtin.zeroCells z.cells (grownCap w (q.length + r.length) old e - (q.length + r.length))) e (0,0) l.ty (q ++ r) (grownCap w (q.length + r.length) old e)
  (by simp; exact hge) (by
   simp only [Array.size_append,List.size_toArray,List.length_append,hol,hnl,Builtin.zeroCells,Array.size_map,Array.size_range,hz]
   rw [← Nat.add_mul,← Nat.add_mul]
   exact Nat.le_of_eq (congrArg (· * l.ty.width) (by omega))) (fun k hk=>by simp) (by
   have:=(ho.app hol hn).more (d:=(Builtin.zeroCells z.cells (grownCap w (q.length + r.length) old e - (q.length + r.length))).toList) (by simp [hol,hnl,Nat.add_mul])
   simpa using Zey.drewn (w':=w.drew) this (fun _ _ _ _ e=>e))
 refine ⟨μ',⟨st.mem,⟨st.tr.sub,st.tr.keep,st.tr.keepB,st.tr.mu⟩,st.loc⟩,?_⟩
 simpa using k
theorem Zgz.upd {b:Nat} {o:Option MB} (h:Zgz μ base) (hb:μ b ≠ none):Zgz (upd μ b o) base:=fun k hk=>by
 unfold E.upd; rw [if_neg (fun e=>hb (by rw [← e]; exact h k hk))]; exact h k hk
theorem takeD_some {α:Type} {τ:Ty} {v:V} {m:Hp} {K:List (D τ) -> Hp -> Option α} {r:α} (h:takeD τ v m K = some r):∃ l m2,K l m2 = some r:=by
 unfold takeD at h
 split at h
 · split at h
   · split at h
     · exact ⟨_,_,h⟩
     · cases h
   · cases h
 · split at h
   · split at h
     · exact ⟨_,_,(Zc4 h).2⟩
     · cases h
   · split at h
     · exact ⟨_,_,(Zc4 h).2⟩
     · cases h
   · cases h
 · cases h
theorem appendD_m {l:TL} {x y:V} {base:Nat} {m m':Hp} {v:V} (h:Zih l x y base m (fun v m=>some (v,m)) = some (v,m')):∃ τ r m2,m' = (base,some (.dp τ r)) :: m2:=by
 unfold Zih at h
 split at h
 · obtain ⟨r,m2,h⟩:=takeD_some h
   split at h
   · obtain ⟨_,e⟩:=Zbp (Zc4 h).2
     exact ⟨_,_,_,e.symm⟩
   · split at h
     · split at h
       · obtain ⟨_,e⟩:=Zbp (Zc4 h).2
         exact ⟨_,_,_,e.symm⟩
       · cases h
     · cases h
   · cases h
 · cases h
set_option maxHeartbeats 1000000 in
theorem good_append (h:Pre P E w0 Ob A B F μ s a w) (hb:Zgz μ base) {o:Oper} {c:Call} (ho:o.op = .call c) (hc:c.callee = .builtin .append) {x y:V} (hx:c.args.toList.map (opnd E s) = [x,y]) {t u:Nat} (hts:c.argTypes.toList = [t,u])
  (hnd:∀ τ r m2,m' ≠ (base,some (.dp τ r)) :: m2) (hf:Zea E .append [t,u] [x,y] base s.m (fun v m=>some (v,m)) = some (v,m')):Good P E.G w0 Ob A B F μ base o a w v m':=by
 obtain ⟨p,q,hp,rfl,rfl⟩:=list_two hx
 simp only [Zea] at hf
 obtain ⟨lt,e,l,hlt,hkt,hle,hf⟩:=Zg0 hf
 obtain ⟨lu,eu,leu,hlu,hku,_,hf⟩:=Zg0 hf
 have ht:=(h.env.lay _ lt hlt).kind
 rw [hkt] at ht
 replace ht:=ht.1
 have hu:=(h.env.lay _ lu hlu).kind
 rw [hku] at hu
 replace hu:=hu.1
 have lay:=h.env.lay e l hle
 obtain ⟨i,i1,i2,i3,z,i4,i5⟩:=lay.size
 have hzs:z.cells.size = l.ty.width:=by
  have:=congrArg List.length i5
  simpa [lay.zlen] using this
 have hp0:=h.ev p
 have hq0:=h.ev q
 split at hf
 rotate_left
 · obtain ⟨τ,r,m2,e⟩:=appendD_m hf
   exact absurd e (hnd _ _ _)
 rename_i r hr
 obtain ⟨adq,capq,slq⟩:=Zid (X:=fun _=>True) h.mem (fun _ _=>trivial) hq0 (fun _ _ _ _ _ _ _ _ _=>trivial) hr
 obtain ⟨news,src,hnews⟩:=src_of hu lay.pos slq
 have src':Src P i.size u (a.eval q) r.length news w:=by rw [i2]; exact src
 split at hf
 ·
  rename_i e1
  obtain ⟨hroom,hf⟩:=Zc4 hf
  obtain ⟨rfl,rfl⟩:=Zbp hf
  have hroom:r.length <= Zfa:=by have:=of_decide_eq_true hroom; simpa using this
  rw [e1] at hp0; simp only [R] at hp0
  by_cases h0:r.length = 0
  · have hr0:r = []:=List.length_eq_zero_iff.1 h0
    have hn0:news = []:=List.length_eq_zero_iff.1 (by rw [src.newsLen,h0,Nat.zero_mul])
    rw [h0,hn0] at src'
    have run:=run_append_nothing (P:=P) w t u o.type e i ht i1 none 0 0 (Nat.le_refl _) (a.eval q) src'
    let qb:MB:=⟨none,0,0,l.ty.width⟩
    have tr:Tr B F F μ (upd μ base (some qb)) w w:=⟨fun _ x=>x,fun _ _ _ _ e=>e,fun _ _ _ _ e=>e,upd_le (.inl hb.at0)⟩
    have mem:=h.mem.gen tr h.mem.ext (Nat.le_refl _) base (.rows l.ty r) qb (by simp [upd]) (fun b hb' hs=>by simp [upd,hb'])
     ⟨by rw [hr0]; rfl,Nat.le_refl _,rfl,fun _=>rfl,fun ad e=>by cases e⟩
     (fun b x q ad _ hx hz hq ha=>⟨rfl,(h.mem.own b x q ad hx hz hq ha).1,fun _ _ e=>by cases e⟩) (fun _ ad e=>by cases e) h.mem.fz
     (h.mem.deepGen (Nat.le_refl _) base (.rows l.ty r) qb (by rw [Hp.at_cons,if_pos rfl]) (by simp [upd]) (fun c y hc hy=>⟨Zh1 hc hy,by simp [upd,hc]⟩) (fun _ _ _ _ _ _ _ _ _=>rfl) (fun _ _=>.inl rfl) (fun c hF=>.inl hF) (fun ad _ e=>by cases e))
    refine Good.value (cv:=.slice none 0 0) (Zgl ho hc hts hp (by rw [hp0]; exact run)) ⟨mem,tr,Zg2 μ base _⟩ ?_
    simp only [R]
    exact ⟨some qb,by simp [upd],_,_,_,rfl,fun q hq=>by cases hq; exact ⟨rfl,rfl,rfl⟩⟩
  · have hge:=growslice_fits (need:=0 + r.length) (old:=0) (bytes:=i.bytes) (by omega) (by
      have:(0 + r.length) * i.bytes <= 2 ^ 38 * 512:=Nat.mul_le_mul (by rw [Nat.zero_add]; exact hroom) i3
      omega)
    have run:=run_append_grow_src (P:=P) w t u o.type e i z ht i1 i4 none 0 0 [] (run_firstCells_none w.drew _ _ _ _) (a.eval q) r.length news src' (by omega) (by unfold Zfa at hroom; omega) hge
    obtain ⟨μ',st,k⟩:=append_grow h.mem hb lay (q:=[]) (r:=r) (olds:=[]) (news:=news) (fun i x hi=>by simp at hi) (by simp) hnews src.newsLen hzs 0
    simp only [List.length_nil,List.nil_append] at st k
    refine Good.value (Zgl ho hc hts hp (by rw [hp0]; exact run)) ?_ k
    simpa using st
 ·
  rename_i b e1
  rw [e1] at hp0; simp only [R] at hp0
  obtain ⟨ob,e2,p1,p2,p3,e3,e4⟩:=hp0
  split at hf
  rotate_left
  · cases hf
  rename_i σ q0 hbb
  split at hf
  rotate_left
  · cases hf
  rename_i q' hq'
  obtain ⟨eσ,rfl⟩:=Zcb hq'
  cases eσ
  obtain ⟨hroom,hf⟩:=Zc4 hf
  obtain ⟨rfl,rfl⟩:=Zbp hf
  have hroom:q0.length + r.length <= Zfa:=of_decide_eq_true hroom
  obtain ⟨qb,e5,k1,k2,k3,k4,k5⟩:=h.mem.box b _ hbb
  rw [e2] at e5; cases e5
  obtain ⟨rfl,rfl,rfl⟩:=e4 qb rfl
  have hbne:μ b ≠ none:=by rw [e2]; simp
  have hbb0:base ≠ b:=fun e=>hbne (by rw [← e]; exact hb.at0)
  obtain ⟨m1,t1⟩:=(h.mem.kill b).forget b (by rw [Hp.at_cons,if_pos rfl]) (by rw [e2]; rfl)
  have fr1:Zgz (upd μ b none) base:=hb.upd hbne
  have inplace:q0.length + r.length <= qb.cap -> ∀ w',(Builtin.append_ #[t,u] o.type #[a.eval p,a.eval q]).run P w = .ok (.slice qb.a (q0.length + r.length) qb.cap) w' ->
    (∀ ad,qb.a = some ad -> w' = w.setCells ad.block (ad.off + q0.length * l.ty.width) news) -> (qb.a = none -> w' = w) -> Good P E.G w0 Ob A B F μ base o a w (.arr base) ((base,some (.rows l.ty (appL q0 r))) :: (b,none) :: s.m):=by
   intro hcap w' run hw1 hw2
   let q2:MB:=⟨qb.a,q0.length + r.length,qb.cap,l.ty.width⟩
   have hkeep:Tr B F F (upd μ b none) (upd μ b none) w w' /\ Ext (E.G = []) Ob w0 w' /\ w'.heap.size = w.heap.size:=by
    cases ha:qb.a with
    | none=>rw [hw2 ha]; exact ⟨Tr.refl _ _ _ _,h.mem.ext,rfl⟩
    | some ad =>
      rw [hw1 ad ha]
      have own:=h.mem.own b _ qb ad hbb rfl e2 ha
      exact ⟨Tr.setCells m1 own.1 own.2.1 _ _,h.mem.ext.setCells own.2.2.2 _ _,Zee _ _ _ _⟩
   obtain ⟨tr1,ext1,hsz⟩:=hkeep
   have tr2:Tr B F F (upd μ b none) (upd (upd μ b none) base (some q2)) w w':=⟨tr1.sub,tr1.keep,tr1.keepB,upd_le (.inl fr1.at0)⟩
   have mem:=m1.gen tr2 ext1 (by omega) base (.rows l.ty (q0 ++ r)) q2 (by simp [upd]) (fun b' hb' hs=>by simp [upd,hb'])
    (by
     refine ⟨by simp [q2],hcap,rfl,fun e=>k4 e,fun ad ha=>?_⟩
     obtain ⟨g1,g2,g3⟩:=k5 ad ha
     rw [hw1 ad ha]
     refine ⟨g1,fun j x hj=>?_,g3.set _ _ _⟩
     have hnl:=src.newsLen
     by_cases hjl:j < q0.length
     · rw [List.getElem?_append_left hjl] at hj
       obtain ⟨c',j1,j2⟩:=g2 j x hj
       refine ⟨c',j1.mono (fun _ y=>y) (by rw [← hw1 ad ha]; exact tr1.keep),fun k cv hk=>?_⟩
       have hkl:k < l.ty.width:=by rw [← j1.len]; exact (List.getElem?_eq_some_iff.1 hk).1
       have hmul:j * l.ty.width + l.ty.width <= q0.length * l.ty.width:=by rw [← Nat.succ_mul]; exact Nat.mul_le_mul_right _ hjl
       rw [World.cell?_setCells_out _ _ _ _ _ (fun _ _=>.inl (by simp; omega))]
       exact j2 k cv hk
     · rw [List.getElem?_append_right (by omega)] at hj
       have hjr:j - q0.length < r.length:=(List.getElem?_eq_some_iff.1 hj).1
       have k6:=hnews _ x hj
       refine ⟨_,k6.mono (fun _ y=>y) (by rw [← hw1 ad ha]; exact tr1.keep),fun k cv hk=>?_⟩
       rw [List.getElem?_take] at hk
       split at hk
       · rename_i hkw
         rw [List.getElem?_drop] at hk
         have hlt:(j - q0.length) * l.ty.width + k < news.length:=(List.getElem?_eq_some_iff.1 hk).1
         have hmul:(q0.length + r.length) * l.ty.width <= qb.cap * l.ty.width:=Nat.mul_le_mul_right _ hcap
         rw [Nat.add_mul] at hmul
         have:=World.cell?_setCells_in ad.block news (ad.off + q0.length * l.ty.width) w (fun n hn=>by
          have:=(g3 (q0.length * l.ty.width + n) (by omega)).1
          rwa [← Nat.add_assoc] at this) _ hlt
         have hjm:j * l.ty.width = q0.length * l.ty.width + (j - q0.length) * l.ty.width:=by rw [← Nat.add_mul]; congr 1; omega
         rw [show ad.off + q0.length * l.ty.width + ((j - q0.length) * l.ty.width + k) = ad.off + j * l.ty.width + k by omega] at this
         rw [this,← hk,List.getElem?_eq_getElem hlt]
       · cases hk)
    (fun b' x' q' ad' hb' hx' hz' hq' ha'=>by
     have own':=m1.own b' x' q' ad' hx' hz' hq' ha'
     have hbb':b' ≠ b:=fun e=>by subst e; rw [Hp.at_cons,if_pos rfl] at hx'; cases hx'
     have hmx:s.m.at b' = some x':=by rw [Hp.at_cons,if_neg (fun e=>hbb' e.symm)] at hx'; exact hx'
     have hmq:μ b' = some (some q'):=by simpa [upd,hbb'] using hq'
     refine ⟨?_,own'.1,fun ad0 _ h0 e=>?_⟩
     · cases ha:qb.a with
       | none=>rw [hw2 ha]; exact rfl
       | some ad =>
         rw [hw1 ad ha]
         exact Zej w _ _ _ (fun e=>hbb' (h.mem.inj b' b x' _ q' qb ad' ad hmx hbb hz' rfl hmq e2 ha' ha e))
     · exact hbb' (h.mem.inj b' b x' _ q' qb ad' ad0 hmx hbb hz' rfl hmq e2 ha' h0 e.symm))
    (fun _ ad ha=>by rw [hsz]; exact h.mem.own b _ qb ad hbb rfl e2 ha) (fun c hF=>by rw [hsz]; exact h.mem.fz c hF)
    (h.mem.deepGen (by omega) base (.rows l.ty (q0 ++ r)) q2 (by rw [Hp.at_cons,if_pos rfl]) (by simp [upd])
     (fun c y hc hy=>by
      have hy:=Zh1 hc hy
      have hcb:c ≠ b:=fun e=>by subst e; rw [Hp.at_cons,if_pos rfl] at hy; cases hy
      exact ⟨Zh1 hcb hy,by simp [upd,hc,hcb]⟩)
     (fun c y p ad' hc hy hyz hp hpa=>by
      have hy:=Zh1 hc hy
      have hcb:c ≠ b:=fun e=>by subst e; rw [Hp.at_cons,if_pos rfl] at hy; cases hy
      have hy:=Zh1 hcb hy
      cases ha:qb.a with
      | none=>rw [hw2 ha]; exact rfl
      | some ad =>
        rw [hw1 ad ha]
        exact Zej w _ _ _ (fun e=>hcb (h.mem.inj c b y _ p qb ad' ad hy hbb hyz rfl hp e2 hpa ha e)))
     (fun c _=>by
      cases ha:qb.a with
      | none=>rw [hw2 ha]; exact .inl rfl
      | some ad =>
        rw [hw1 ad ha]
        by_cases e:c = ad.block
        · exact .inr ⟨b,_,qb,ad,hbb,rfl,e2,ha,e.symm⟩
        · exact .inl (Zej w _ _ _ e))
     (fun c hF=>.inl hF) (fun ad _ ha=>.inr ⟨b,_,qb,ad,hbb,rfl,e2,ha,rfl⟩))
   refine Good.value (Zgl ho hc hts hp run) ⟨mem,t1.trans tr2,fun id hid hn=>?_⟩ ?_
   · have hidb:id ≠ b:=fun e=>hbne (e ▸ hn)
     refine Zg2 _ base _ id hid ?_
     simp [upd,hidb,hn]
   · simp only [R]
     exact ⟨some q2,by simp [upd],_,_,_,rfl,fun q hq=>by cases hq; exact ⟨rfl,rfl,rfl⟩⟩
  have hev:a.eval p = .slice qb.a q0.length qb.cap:=by rw [e3,k1]
  by_cases h0:r.length = 0
  · have hr0:r = []:=List.length_eq_zero_iff.1 h0
    have hn0:news = []:=List.length_eq_zero_iff.1 (by rw [src.newsLen,h0,Nat.zero_mul])
    have src0:=src'
    rw [h0,hn0] at src0
    have run:=run_append_nothing (P:=P) w t u o.type e i ht i1 qb.a q0.length qb.cap (by omega) (a.eval q) src0
    refine inplace (by omega) w (by rw [hev,h0]; simpa using run) (fun ad ha=>by rw [hn0]; rfl) (fun _=>rfl)
  · by_cases hcap:q0.length + r.length <= qb.cap
    · cases ha:qb.a with
      | none=>have:=k4 ha; omega
      | some ad =>
        obtain ⟨g1,g2,g3⟩:=k5 ad ha
        obtain ⟨bb,of,sp⟩:=ad
        simp at g1; subst g1
        have hmul:(q0.length + r.length) * l.ty.width <= qb.cap * l.ty.width:=Nat.mul_le_mul_right _ hcap
        rw [Nat.add_mul] at hmul
        have hnl:=src.newsLen
        have run:=run_append_room_src (P:=P) w t u o.type e i ht i1 bb of q0.length qb.cap (a.eval q) r.length news src' hcap
         (fun j hj=>by rw [i2]; have:=(g3 (q0.length * l.ty.width + j) (by omega)).1; rwa [← Nat.add_assoc] at this)
         (fun j hj=>by rw [i2]; have:=(g3 (q0.length * l.ty.width + j) (by omega)).2; rwa [← Nat.add_assoc] at this)
        refine inplace hcap _ (by rw [hev,ha]; exact run) (fun ad' ha'=>by rw [ha] at ha'; cases ha'; rw [i2]) (fun e=>by rw [ha] at e; cases e)
    · have hge:=growslice_fits (need:=q0.length + r.length) (old:=qb.cap) (bytes:=i.bytes) (by omega) (by
        have:(q0.length + r.length) * i.bytes <= 2 ^ 38 * 512:=Nat.mul_le_mul hroom i3
        omega)
      obtain ⟨olds,ho1,ho2,ho3⟩:∃ olds:List Value,(Builtin.firstCells i.size q0.length (.slice qb.a q0.length qb.cap)).run P w.drew = .ok olds.toArray w.drew /\ Zey F w l.ty q0 olds /\ olds.length = q0.length * l.ty.width:=by
       cases ha:qb.a with
       | none =>
         have h1:=k4 ha
         have:q0 = []:=List.length_eq_zero_iff.1 (by omega)
         subst this
         exact ⟨[],run_firstCells_none w.drew _ _ _ _,fun i x hi=>by simp at hi,by simp⟩
       | some ad =>
         obtain ⟨g1,g2,g3⟩:=k5 ad ha
         obtain ⟨j1,j2,j3,j4⟩:=rows_cells g2 lay.pos
         refine ⟨_,run_firstCells_some w.drew i.size q0.length ad q0.length qb.cap _ (by rw [i2]; exact j3) (fun j u hj=>?_),j2,j3⟩
         obtain ⟨bb,of,sp⟩:=ad
         simp at g1; subst g1
         rw [Zd8]; exact j1 j u hj
      have run:=run_append_grow_src (P:=P) w t u o.type e i z ht i1 i4 qb.a q0.length qb.cap olds ho1 (a.eval q) r.length news src' (by omega) (by unfold Zfa at hroom; omega) hge
      obtain ⟨μ',st,k⟩:=append_grow m1 fr1 lay (q:=q0) (r:=r) (olds:=olds) (news:=news) ho2 ho3 hnews src.newsLen hzs qb.cap
      refine Good.value (Zgl ho hc hts hp (by rw [hev]; exact run)) ⟨st.mem,t1.trans st.tr,fun id hid hn=>st.loc id hid ?_⟩ k
      have hidb:id ≠ b:=fun e=>hbne (e ▸ hn)
      simp [upd,hidb,hn]
 · cases hf
end
end Go.E
namespace Go.E
open Go Go.RowKit
section
variable {P:Program} {E:Env} {G:List (Nat × List V)} {w0:World} {Ob A B F X:Nat -> Prop} {μ:Mu} {m:Hp} {w:World} {base:Nat} {s:St} {a:Act} {v:V} {m':Hp}
theorem wOI_some {ρ:Type} {x:Option Operand} {d:Int} {K:Int -> Option ρ} {r:ρ} (hev:∀ x,R F B w μ (opnd E s x) (a.eval x)) (h:wOI E s x d K = some r) :
  ∃ n,K n = some r /\ ((x = none /\ n = d) ∨ ∃ y k,x = some y /\ a.eval y = .int k n):=by
 unfold wOI at h; split at h
 · rename_i y
   obtain ⟨k,n,e,h⟩:=Zfl h
   exact ⟨n,h,.inr ⟨y,k,rfl,Ziu (e ▸ hev y)⟩⟩
 · exact ⟨d,h,.inl ⟨rfl,rfl⟩⟩
theorem okCut_iff {l h n:Int} (e:Zfs l h n = true):0 <= l /\ l <= h /\ h <= n:=of_decide_eq_true e
theorem run_bounds {isSlice:Bool} {len cap:Nat} {lo hi:Option Operand} {l h:Int} (hl:(lo = none /\ l = 0) ∨ ∃ y k,lo = some y /\ a.eval y = .int k l) (hh:(hi = none /\ h = len) ∨ ∃ y k,hi = some y /\ a.eval y = .int k h)
  (h0:0 <= l) (h1:l <= h) (h2:h <= len) (hc:len <= cap):(Instr.sliceBounds isSlice len cap (lo.map a.eval) (hi.map a.eval) none).run P w = .ok (l.toNat,h.toNat,cap) w:=by
 have b1:∀ (x:Nat) (code:BoundsCode) (y:Operand) k (n:Int),a.eval y = .int k n -> 0 <= n -> n <= x -> (Instr.sliceBound (a.eval y) x code).run P w = .ok n.toNat w:=by
  intro x code y k n e k0 k1
  simp [Instr.sliceBound,e,asIntOf,k0,k1]
 unfold Instr.sliceBounds
 rcases hh with ⟨rfl,rfl⟩ | ⟨y,k,rfl,e⟩
 · rcases hl with ⟨rfl,rfl⟩ | ⟨y',k',rfl,e'⟩
   · simp
   · have:=b1 len .sliceB y' k' l e' h0 h1
     simp [this]
 · have hb:=b1 cap (if isSlice then .sliceAcap else .sliceAlen) y k h e (by omega) (by omega)
   rcases hl with ⟨rfl,rfl⟩ | ⟨y',k',rfl,e'⟩
   · simp [hb]
   · have:=b1 h.toNat .sliceB y' k' l e' h0 (by omega)
     simp [hb,this]
theorem good_slice (h:Pre P E w0 Ob A B F μ s a w) {o:Oper} {t:Nat} {x:Operand} {lo hi mx:Option Operand} (ho:o.op = .slice t x lo hi mx) (hf:opF E o.op base s = some (v,m')):Good P E.G w0 Ob A B F μ base o a w v m':=by
 rw [ho] at hf; simp only [opF,opK] at hf
 split at hf
 · cases hf
 obtain ⟨tl,htl,hf⟩:=Zdy hf
 have hk:=(h.env.lay _ tl htl).kind
 have hx:=h.ev x
 have exec:∀ {cv:Value},(Instr.slice t (a.eval x) (lo.map a.eval) (hi.map a.eval) none).run P w = .ok cv w -> (∀ n e,P.underlying t ≠ some (.array n e)) -> (∃ d,P.underlying t = some d) -> (execOp a.eval o).run P w = .ok (.value cv) w:=by
  intro cv hr hna ⟨d,hd⟩
  unfold execOp; rw [ho]
  have:(Instr.sliceAt t (a.eval x) (lo.map a.eval) (hi.map a.eval) none).run P w = .ok cv w:=by
   unfold Instr.sliceAt
   simp only [Sem.run_bind,run_underlying hd,Result.andThen_ok]
   cases d <;> first | exact hr | exact absurd hd (hna _ _)
  simp [this]
 split at hf
 · rename_i e; rw [e] at hk
   split at hf
   · rename_i b e1
     have ex:=R_str (e1 ▸ hx)
     obtain ⟨l,hf,hl⟩:=wOI_some h.ev hf
     obtain ⟨hh,hf,hhh⟩:=wOI_some h.ev hf
     obtain ⟨hcut,hf⟩:=Zc4 hf
     obtain ⟨rfl,rfl⟩:=Zbp hf
     obtain ⟨c0,c1,c2⟩:=okCut_iff hcut
     unfold lenS at hhh c2
     refine Good.same h (cv:=.string (cutS b l hh)) (exec ?_ (fun n e' he=>by rw [hk.1] at he; cases he) ⟨_,hk.1⟩) (mk_str _)
     have rb:=run_bounds (P:=P) (w:=w) (a:=a) (isSlice:=false) (len:=b.size) (cap:=b.size) hl hhh c0 c1 c2 (Nat.le_refl _)
     unfold Instr.slice
     simp only [Sem.run_bind,run_underlying hk.1,Result.andThen_ok,ex,cutS,Option.isSome_none,Bool.false_eq_true,if_false,rb,Sem.run_pure]
   · cases hf
 · rename_i e' e; rw [e] at hk
   obtain ⟨le,hle,hf⟩:=Zdy hf
   have lay:=h.env.lay _ le hle
   split at hf
   · rename_i r hr
     obtain ⟨l,hf,hl⟩:=wOI_some h.ev hf
     obtain ⟨hh,hf,hhh⟩:=wOI_some h.ev hf
     obtain ⟨hcut,hf⟩:=Zc4 hf
     obtain ⟨rfl,rfl⟩:=Zbp hf
     obtain ⟨c0,c1,c2⟩:=okCut_iff hcut
     unfold lenL at hhh c2
     obtain ⟨F',h',tr⟩:=h.mem.frz (opnd E s x)
     obtain ⟨ad,cap,sl⟩:=Zid (X:=F') h.mem tr.sub hx (fun b hb σ r' q ad' e0 e1 e2=>by
      have hat:=frz_at s.m (opnd E s x) b
      rw [if_pos (by cases hxx:opnd E s x <;> rw [hxx] at hb <;> first | exact hb | simp [Ze3] at hb),e0] at hat
      obtain ⟨q',e3,_,_,_,_,k⟩:=h'.box b _ hat
      rw [e1] at e3; cases e3
      exact (k ad' e2).2.1) hr
     have rb:=run_bounds (P:=P) (w:=w) (a:=a) (isSlice:=true) (len:=r.length) (cap:=cap) hl hhh c0 c1 c2 sl.le
     have hcl:(cutL r l hh).length = hh.toNat - l.toNat:=by
      simp only [cutL,List.length_drop,List.length_take]
      rw [Nat.min_eq_left (by omega)]
     refine Good.value (cv:=.slice (if cap = l.toNat then ad else ad.map (·.add (l.toNat * le.ty.width))) (hh.toNat - l.toNat) (cap - l.toNat)) (exec ?_ (fun n e' he=>by rw [hk.1] at he; cases he) ⟨_,hk.1⟩) ⟨h',tr,fun _ _ h=>h⟩ ?_
     · unfold Instr.slice
       simp only [Sem.run_bind,run_underlying hk.1,Result.andThen_ok,sl.val,rb,Sem.run_pure,lay.run_size]
     · simp only [R,Ty.agg,RC]
       refine ⟨_,cap - l.toNat,by rw [hcl],?_,?_,?_⟩
       · rw [hcl]; have:=sl.le; omega
       · intro hn
         split at hn
         · rename_i hcl'; have:=sl.nil hn; omega
         · cases ad with
           | none=>have:=sl.nil rfl; omega
           | some ad=>simp at hn
       · intro ad' hn hcp
         have hcp:0 < hh.toNat - l.toNat:=by rw [← hcl]; exact hcp
         have hle:=sl.le
         by_cases hcl':cap = l.toNat
         · rw [if_pos hcl'] at hn
           omega
         · rw [if_neg hcl'] at hn
           cases ad with
           | none=>simp at hn
           | some ad =>
             simp at hn; subst hn
             obtain ⟨g1,g2,g3⟩:=sl.at_ ad rfl (by omega)
             obtain ⟨bb,of,sp⟩:=ad
             simp at g1; subst g1
             rw [Zd8]
             refine ⟨rfl,g2,fun i y hy=>?_⟩
             have hy':r[l.toNat + i]? = some y:=by
              have hy2:((r.take hh.toNat).drop l.toNat)[i]? = some y:=hy
              rw [List.getElem?_drop,List.getElem?_take] at hy2
              split at hy2
              · exact hy2
              · cases hy2
             obtain ⟨c,j1,j2⟩:=g3 _ y hy'
             refine ⟨c,j1.mono tr.sub (fun _ _ _ _ e=>e),?_⟩
             have:of + l.toNat * le.ty.width + i * le.ty.width = of + (l.toNat + i) * le.ty.width:=by rw [Nat.add_mul]; omega
             rw [this]; exact j2
   · have deep:∀ {b:Nat} {q:MB} {n:Nat} {K:Int -> Int -> V},opnd E s x = .arr b -> μ b = some (some q) -> RowBox w n le.ty.width q -> (K = fun l h=>.cut b l h) -> (wOI E s lo 0 fun l=>wOI E s hi (n:Int) fun h=>iteB (Zfs l h (n:Int)) (some (K l h,s.m)) none) = some (v,m') -> Good P E.G w0 Ob A B F μ base o a w v m':=by
       intro b q n K eb hq hbx hK hf
       subst hK
       obtain ⟨l,hf,hl⟩:=wOI_some h.ev hf
       obtain ⟨hh,hf,hhh⟩:=wOI_some h.ev hf
       obtain ⟨hcut,hf⟩:=Zc4 hf
       obtain ⟨rfl,rfl⟩:=Zbp hf
       obtain ⟨c0,c1,c2⟩:=okCut_iff hcut
       obtain ⟨k1,k2,k3,k4,k5⟩:=hbx
       rw [eb] at hx
       simp only [R] at hx
       obtain ⟨o',e1,p1,p2,p3,e3,e4⟩:=hx
       rw [hq] at e1; cases e1
       obtain ⟨rfl,rfl,rfl⟩:=e4 q rfl
       have rb:=run_bounds (P:=P) (w:=w) (a:=a) (isSlice:=true) (len:=q.len) (cap:=q.cap) hl (by rw [k1]; exact hhh) c0 c1 (by rw [k1]; exact c2) k2
       refine Good.same h (cv:=.slice (if q.cap = l.toNat then q.a else q.a.map (·.add (l.toNat * le.ty.width))) (hh.toNat - l.toNat) (q.cap - l.toNat)) (exec ?_ (fun n e' he=>by rw [hk.1] at he; cases he) ⟨_,hk.1⟩) ?_
       · unfold Instr.slice
         have lay:=h.env.lay _ le ‹_›
         simp only [Sem.run_bind,run_underlying hk.1,Result.andThen_ok,e3,rb,Sem.run_pure,lay.run_size]
       · simp only [R]
         refine ⟨some q,hq,_,_,_,rfl,fun q' e=>?_⟩
         cases e
         refine ⟨by omega,c0,by omega,by omega,fun hn=>?_,fun ad hn hpos=>?_⟩
         · split at hn
           · omega
           · cases ha:q.a with
             | none=>have:=k4 ha; omega
             | some ad=>rw [ha] at hn; simp at hn
         · have hne:¬ q.cap = l.toNat:=by omega
           rw [if_neg hne] at hn
           cases ha:q.a with
           | none=>rw [ha] at hn; simp at hn
           | some ad0 =>
             rw [ha] at hn
             simp only [Option.map_some,Option.some.injEq] at hn
             refine ⟨ad0,rfl,?_⟩
             obtain ⟨bb,of,sp⟩:=ad0
             have g1:=(k5 _ ha).1
             simp at g1; subst g1
             rw [← hn,Zd8,k3]
     split at hf
     · rename_i b eb
       split at hf
       · rename_i σ r hb
         split at hf
         · rename_i e; subst e
           obtain ⟨q,e1,e2⟩:=h.mem.box b _ hb
           exact deep eb e1 e2 rfl hf
         · cases hf
       · rename_i σ r p hb
         split at hf
         · rename_i e; subst e
           obtain ⟨q,e1,e2,_⟩:=h.mem.box b _ hb
           exact deep eb e1 e2 rfl hf
         · cases hf
       · cases hf
     · cases hf
 · cases hf
theorem good_makeSlice (h:Pre P E w0 Ob A B F μ s a w) (hb:Zgz μ base) {o:Oper} {t:Nat} {x y:Operand} (ho:o.op = .makeSlice t x y) (hf:opF E o.op base s = some (v,m')):Good P E.G w0 Ob A B F μ base o a w v m':=by
 rw [ho] at hf; simp only [opF,opK] at hf
 obtain ⟨lt,e,l,hlt,hkt,hle,hf⟩:=Zg0 hf
 have ht:=(h.env.lay _ lt hlt).kind
 rw [hkt] at ht
 replace ht:=ht.1
 have lay:=h.env.lay e l hle
 obtain ⟨z,hz,hf⟩:=Zgj hf
 obtain ⟨k1,n,e1,hf⟩:=Zfl hf
 obtain ⟨k2,n',e2,hf⟩:=Zfl hf
 obtain ⟨hnn,hf⟩:=Zc4 hf
 obtain ⟨hroom,hf⟩:=Zc4 hf
 obtain ⟨rfl,rfl⟩:=Zbp hf
 have hnn:n = n':=of_decide_eq_true hnn
 subst hnn
 have hroom:(0:Int) <= n /\ (n:Int) <= 274877906944:=of_decide_eq_true hroom
 obtain ⟨hr0,hr1⟩:=hroom
 have ex:=Ziu (e1 ▸ h.ev x); have ey:=Ziu (e2 ▸ h.ev y)
 obtain ⟨zv,z1,z2,z3,z4⟩:=zero_ok h.mem lay hz
 obtain ⟨i,i1,i2,i3,zi,i4,i5⟩:=lay.size
 have hzi:zi = zv:=by
  have:=z3 w
  simp [zeroValue,typeInfo,i1,i4] at this
  exact this
 subst hzi
 have hbytes:(i.bytes:Int) * n <= 281474976710656:=by
  have h1:(i.bytes:Int) <= 512:=by omega
  have h2:(i.bytes:Int) * n <= 512 * n:=Int.mul_le_mul_of_nonneg_right h1 hr0
  omega
 have run:=run_make (P:=P) w t e i zi ht i1 i4 k1 k2 n n hr0 (Int.le_refl _) hbytes (by omega)
 obtain ⟨μ',st,k⟩:=newRows h.mem hb (madeCells zi.cells (n.toNat * i.size)) e (0,0) l.ty (repL n z) n.toNat (by simp [repL]) (by rw [size_madeCells,i2]; exact Nat.le_refl _) (fun k hk=>by simp)
  (by unfold madeCells repL; rw [i2]; exact Zey.zeros z4 (Nat.le_refl _) lay.pos)
 have hl:(repL n z).length = n.toNat:=by simp [repL]
 rw [hl] at k
 refine Good.value ?_ st k
 unfold execOp; rw [ho]; simp only [Sem.run_bind,ex,ey,run,Result.andThen_ok,Sem.run_pure]
end
end Go.E
namespace Go.E
open Go Go.RowKit
inductive AV
 | fr (v:V)
 | st (cs:List V)
 | io (τ:Ty) (l:List (D τ))
 | mx (cs:List V) (off:Nat) (τ:Ty) (l:List (D τ))
 | mv (τ:Ty) (l:List (D τ))
def noMu:Mu:=fun _=>none
def ArgR (A B:Nat -> Prop) (w:World) (io:Nat -> Option MB) (nb:Nat -> Nat -> Prop):Nat -> List AV -> List Value -> Prop
 | _,[],[]=>True
 | i,av :: r,v :: vs=>(match av with
   | .fr x=>R A B w noMu x v
   | .st cs=>∃ q ad,io i = some q /\ q.a = some ad /\ v = .pointer (some ⟨ad.block,ad.off,none⟩) /\ Zd2 A B w noMu (.cs cs) q
   | .io τ l=>∃ q,io i = some q /\ v = .slice q.a q.len q.cap /\ Zd2 A B w noMu (.rows τ l) q
   | .mx cs off τ l=>∃ q us,io i = some q /\ v = .agg us /\ RL A B w noMu (cs.set off .undef) us.toList /\ us.toList[off]? = some (.slice q.a q.len q.cap) /\ Zd2 A B w noMu (.rows τ l) q
   | .mv τ l=>∃ q,io i = some q /\ v = .slice q.a q.len q.cap /\ Zd2 A B w noMu (.dp τ l) q /\ Nest w q (nb i) (.dp τ l)) /\ ArgR A B w io nb (i + 1) r vs
 | _,_,_=>False
def IOb (io:Nat -> Option MB) (b:Nat):Prop:=∃ i q ad,io i = some q /\ q.a = some ad /\ b = ad.block
def MVb (mvs:List Nat) (io:Nat -> Option MB) (nb:Nat -> Nat -> Prop) (b:Nat):Prop:=∃ i ∈ mvs,(∃ q ad,io i = some q /\ q.a = some ad /\ b = ad.block) ∨ nb i b
def IOn (io:Nat -> Option MB) (nb:Nat -> Nat -> Prop) (b:Nat):Prop:=IOb io b ∨ ∃ i,nb i b
structure IoOk (A B:Nat -> Prop) (w:World) (io:Nat -> Option MB) (nb:Nat -> Nat -> Prop):Prop where
 apart:∀ b,IOn io nb b -> ¬ A b /\ ¬ B b /\ b < w.heap.size
 inj:∀ i j q q' ad ad',io i = some q -> io j = some q' -> q.a = some ad -> q'.a = some ad' -> ad.block = ad'.block -> i = j
 nbInj:∀ i j b,nb i b -> nb j b -> i = j
 nbIo:∀ i j q ad,io j = some q -> q.a = some ad -> ¬ nb i ad.block
structure ResR (S:Prop) (A B:Nat -> Prop) (w:World) (io:Nat -> Option MB) (nb:Nat -> Nat -> Prop) (res:Res) (w':World) (v:Value) (F:Nat -> Prop) (μ:Mu):Prop where
 ext:Ext S (IOn io nb) w w'
 fz:∀ b,F b -> A b ∨ (w.heap.size <= b /\ b < w'.heap.size) ∨ MVb res.mvs io nb b
 val:R F B w' μ res.v v
 bs:∀ i x,res.bs[i]? = some x -> ∃ q,μ i = some (some q) /\ Zd2 F B w' noMu x q /\ ∀ ad,q.a = some ad -> ¬ F ad.block /\ (w.heap.size <= ad.block ∨ MVb res.mvs io nb ad.block) /\ ad.block < w'.heap.size
 dom:∀ i,res.bs.length <= i -> μ i = none
 bsInj:∀ i j q q' ad ad',i < res.bs.length -> j < res.bs.length -> μ i = some (some q) -> μ j = some (some q') -> q.a = some ad -> q'.a = some ad' -> ad.block = ad'.block -> i = j
 outs:∀ i x,(i,x) ∈ res.outs -> ∃ q,io i = some q /\ Zd2 F B w' noMu x q
 outsF:∀ b,IOb io b -> ¬ MVb res.mvs io nb b -> ¬ F b
 deep:∃ ν:Nat -> Nat -> Prop,(∀ i x q,res.bs[i]? = some x -> μ i = some (some q) -> Nest w' q (ν i) x) /\
  (∀ i c,i < res.bs.length -> ν i c -> ¬ F c /\ (w.heap.size <= c ∨ MVb res.mvs io nb c) /\ c < w'.heap.size /\ ∀ j q ad,μ j = some (some q) -> q.a = some ad -> ad.block ≠ c) /\
  (∀ i j c,i < res.bs.length -> j < res.bs.length -> ν i c -> ν j c -> i = j)
def Does (P:Program) (g:Nat) (vs:Array Value) (w:World) (K:Value -> World -> Prop):Prop :=
 ((callFunc g vs).run P w = .ok (.enter g vs) w /\ Calls P g vs w fun e w'=>∃ v,e = .returned v /\ K v w') ∨ ∃ v w',(callFunc g vs).run P w = .ok (.value v) w' /\ K v w'
def SatAt (P:Program) (G:List (Nat × List V)) (g:Nat) (avs:List AV) (res:Res):Prop :=
 ∀ (w:World) (A B:Nat -> Prop) (io:Nat -> Option MB) (nb:Nat -> Nat -> Prop) (vs:Array Value),(∀ b,A b -> b < w.heap.size) -> (∀ b,B b -> b < w.heap.size) ->
   (∀ g cs,look G g = some cs -> R A B w noMu (.rc cs) (.pointer (some ⟨g,0,none⟩))) /\ GEx G w -> IoOk A B w io nb -> ArgR A B w io nb 0 avs vs.toList ->
   Does P g vs w fun v w'=>∃ F μ,ResR (G = []) A B w io nb res w' v F μ
def Match (offs:List (Nat × Nat)) (mvs:List Nat) (o:List Nat):Nat -> List V -> List AV -> Prop
 | _,[],[]=>True
 | i,x :: r,av :: avs=>(match av with
   | .fr y=>x = y /\ i ∉ o /\ i ∉ mvs
   | .st cs=>x = .rc cs /\ i ∈ o
   | .io τ l=>x = .val (.sl τ) l /\ i ∈ o
   | .mx cs off τ l=>(∃ (σ:Ty) (y:D σ),x = .val σ y /\ σ.agg = true /\ cs = Zds σ y /\ Zhl cs off τ = some l) /\ i ∈ o /\ look offs i = some off
   | .mv τ l=>x = .val (.sl τ) l /\ i ∈ mvs) /\ Match offs mvs o (i + 1) r avs
 | _,_,_=>False
def SatC (P:Program) (G:List (Nat × List V)) (g:Nat) (c:Zda):Prop :=
 ∀ (ρ:Type) (args:List V) (K:Res -> Option ρ) (r:ρ),c ρ args K = some r -> ∃ avs res,Match res.offs res.mvs (res.outs.map (·.1)) 0 args avs /\ SatAt P G g avs res /\ K res = some r
section
variable {P:Program} {E:Env} {G:List (Nat × List V)} {w0:World} {Ob A B F X:Nat -> Prop} {μ:Mu} {m:Hp} {w w':World} {base:Nat} {s:St} {a:Act} {v:V} {m':Hp}
theorem addBoxes_at (base:Nat):∀ (bs:List Bx) (k:Nat) (m:Hp) (c:Nat),(Zip base k bs m).at c = if base + k <= c /\ c < base + k + bs.length then bs[c - (base + k)]? else m.at c
 | [],k,m,c=>by simp only [Zip,List.length_nil,Nat.add_zero]; rw [if_neg (by omega)]
 | b :: bs,k,m,c=>by
   rw [Zip,addBoxes_at base bs (k + 1),Hp.at_cons]
   simp only [List.length_cons]
   by_cases h1:base + k = c
   · subst h1
     rw [if_neg (by omega),if_pos rfl,if_pos (by omega)]; simp
   · by_cases h2:base + (k + 1) <= c /\ c < base + (k + 1) + bs.length
     · rw [if_pos h2,if_pos (by omega),show c - (base + k) = (c - (base + (k + 1))) + 1 by omega,List.getElem?_cons_succ]
     · rw [if_neg h2,if_neg h1,if_neg (by omega)]
def KindOk (offs:List (Nat × Nat)) (args:List V) (i:Nat) (x:Bx) (b:Nat) (o:Option Bx):Prop :=
 (look offs i = none /\ args[i]? = some (.ptr b 0) /\ ∃ cs ds,o = some (.cs cs) /\ x = .cs ds /\ cs.length = ds.length) ∨ (look offs i = none /\ args[i]? = some (.arr b) /\ ∃ σ l l',o = some (.rows σ l) /\ x = .rows σ l') ∨
 (∃ off cs,look offs i = some off /\ args[i]? = some (.agg cs) /\ cs[off]? = some (.arr b) /\ (cs.set off .nil).all Zep = true /\ ∃ σ l l',o = some (.rows σ l) /\ x = .rows σ l')
def OutsR (offs:List (Nat × Nat)) (args:List V) (m:Hp):List (Nat × Bx) -> List Nat -> Prop
 | [],[]=>True
 | (i,x) :: r,b :: bs=>KindOk offs args i x b (m.at b) /\ OutsR offs args m r bs
 | _,_=>False
def outAt:List (Nat × Bx) -> List Nat -> Nat -> Option Bx -> Option Bx
 | (_,x) :: r,b :: bs,c,o=>if c = b then some x else outAt r bs c o
 | _,_,_,o=>o
theorem outAt_not {c:Nat} {o:Option Bx}:∀ (outs:List (Nat × Bx)) (ids:List Nat),c ∉ ids -> outAt outs ids c o = o
 | [],_,_=>rfl
 | _ :: _,[],_=>rfl
 | (_,x) :: r,b :: bs,h=>by
   simp only [List.mem_cons,not_or] at h
   rw [outAt,if_neg h.1]; exact outAt_not r bs h.2
theorem OutsR.congr {offs:List (Nat × Nat)} {args:List V} {m m2:Hp}:∀ (outs:List (Nat × Bx)) (ids:List Nat),(∀ b ∈ ids,m2.at b = m.at b) -> OutsR offs args m outs ids -> OutsR offs args m2 outs ids
 | [],[],_,_=>trivial
 | (i,x) :: r,b :: bs,h,k=>⟨by rw [h b (by simp)]; exact k.1,OutsR.congr r bs (fun c hc=>h c (by simp [hc])) k.2⟩
 | [],_ :: _,_,k=>k.elim
 | _ :: _,[],_,k=>k.elim
theorem outsH_ok {offs:List (Nat × Nat)} {args:List V}:∀ (outs:List (Nat × Bx)) (used:List Nat) (m m1:Hp),outsH args offs used outs m = some m1 ->
  ∃ ids,ids.Nodup /\ (∀ b ∈ ids,b ∉ used) /\ OutsR offs args m outs ids /\ ∀ c,m1.at c = outAt outs ids c (m.at c)
 | [],used,m,m1,h=>by simp only [outsH,Option.some.injEq] at h; subst h; exact ⟨[],by simp,by simp,trivial,fun c=>rfl⟩
 | (i,x) :: r,used,m,m1,h=>by
   have fin:∀ b x',b ∉ used -> KindOk offs args i x b (m.at b) -> x' = x -> outsH args offs (b :: used) r ((b,some x') :: m) = some m1 -> ∃ ids,ids.Nodup /\ (∀ b ∈ ids,b ∉ used) /\ OutsR offs args m ((i,x) :: r) ids /\ ∀ c,m1.at c = outAt ((i,x) :: r) ids c (m.at c):=by
    rintro b x' hu hk rfl hr
    obtain ⟨ids,n1,n2,n3,n4⟩:=outsH_ok r (b :: used) _ _ hr
    have hb:b ∉ ids:=fun hb=>n2 b hb (by simp)
    refine ⟨b :: ids,List.nodup_cons.2 ⟨hb,n1⟩,fun c hc=>?_,⟨hk,n3.congr r ids (fun c hc=>?_)⟩,fun c=>?_⟩
    · rcases List.mem_cons.1 hc with rfl | hc
      · exact hu
      · have:=n2 c hc; simp only [List.mem_cons,not_or] at this; exact this.2
    · rw [Hp.at_cons,if_neg (fun e:b = c=>hb (e ▸ hc))]
    · rw [n4,Hp.at_cons,outAt]
      by_cases e:c = b
      · subst e; rw [if_pos rfl,if_pos rfl,outAt_not _ _ hb]
      · rw [if_neg (fun e'=>e e'.symm),if_neg e]
   simp only [outsH] at h
   split at h
   · rename_i hoff
     split at h
     · rename_i b ha
       split at h
       · cases h
       rename_i hu
       split at h
       · rename_i cs ds hm
         split at h
         · rename_i hl
           exact fin b _ (by simpa using hu) (.inl ⟨hoff,ha,cs,ds,hm,rfl,hl⟩) rfl h
         · cases h
       · cases h
     · rename_i b ha
       split at h
       · cases h
       rename_i hu
       split at h
       · rename_i σ l τ l' hm
         split at h
         · rename_i hl; subst hl
           exact fin b _ (by simpa using hu) (.inr (.inl ⟨hoff,ha,σ,l,l',hm,rfl⟩)) rfl h
         · cases h
       · cases h
     · cases h
   · rename_i off hoff
     split at h
     · rename_i cs ha
       split at h
       · rename_i b hcs
         split at h
         · cases h
         rename_i hu
         split at h
         · rename_i hfree
           split at h
           · rename_i σ l τ l' hm
             split at h
             · rename_i hl; subst hl
               exact fin b _ (by simpa using hu) (.inr (.inr ⟨off,cs,hoff,ha,hcs,hfree,σ,l,l',hm,rfl⟩)) rfl h
             · cases h
           · cases h
         · cases h
       · cases h
     · cases h
theorem Ext.same {S:Prop} {Ob':Nat -> Prop} (h:Ext S Ob' w w') {b:Nat} (hb:b < w.heap.size) (hn:¬ Ob' b):Same w w' b:=h.block b hb hn
end
end Go.E
namespace Go.E
open Go Go.RowKit
section
variable {P:Program} {E:Env} {G:List (Nat × List V)} {w0:World} {Ob A B F F' A' B' X:Nat -> Prop} {μ μ':Mu} {m:Hp} {w w':World} {base:Nat} {s:St} {a:Act} {v:V} {m':Hp}
theorem Zgs (hF:∀ b,F b -> F' b) (hk:Keep F w w') {v:V} {cv:Value} (hv:Zep v = true) (h:R F B w μ v cv):R F' B' w' μ' v cv:=by
 cases v <;> simp [Zep] at hv
 · rename_i τ x
   simp only [R] at h ⊢
   cases hτ:τ.agg with
   | true=>rw [hτ] at h; obtain ⟨cs,e,k⟩:=h; exact ⟨cs,e,k.mono hF hk⟩
   | false=>rw [hτ] at h; exact RC.mono hF hk h
 · simp only [R] at h ⊢; exact h
 · simp only [R] at h ⊢; exact h
theorem Zhh (hF:∀ b,F b -> F' b) (hk:Keep F w w'):∀ {cs:List V} {vs:List Value},cs.all Zep = true -> RL F B w μ cs vs -> RL F' B' w' μ' cs vs
 | [],[],_,_=>by simp only [RL]
 | a :: x,b :: y,hc,h=>by
   simp only [List.all_cons,Bool.and_eq_true] at hc
   simp only [RL] at h ⊢
   exact ⟨Zgs hF hk hc.1 h.1,Zhh hF hk hc.2 h.2⟩
 | [],_ :: _,_,h=>by simp only [RL] at h
 | _ :: _,[],_,h=>by simp only [RL] at h
theorem Zd3 (F:Nat -> Prop) (w:World):Keep F w w:=fun _ _ _ _ e=>e
theorem asm_right (m:Hp):∀ (τ:Ty) {cs:List V} {x:D τ} {r:List V} {off:Nat},asm m τ cs = some (x,r) -> τ.width <= off -> ∀ v,asm m τ (cs.set off v) = some (x,r.set (off - τ.width) v):=by
 intro τ
 induction τ with
 | pr a b iha ihb =>
   intro cs x r off h ho v
   have ho:a.width + b.width <= off:=ho
   simp only [asm] at h ⊢
   split at h
   · rename_i x1 r1 h1
     split at h
     · rename_i x2 r2 h2
       cases h
       have k1:=iha h1 (off:=off) (by omega) v
       have k2:=ihb h2 (off:=off - a.width) (by omega) v
       simp only [k1,k2,Ty.width,Nat.sub_sub]
     · cases h
   · cases h
 | q =>
   intro cs x r off h ho v
   have ho:6 <= off:=ho
   obtain ⟨n,rfl⟩:∃ n,off = n + 6:=⟨off - 6,by omega⟩
   simp only [asm] at h
   split at h
   · split at h
     · rename_i h1 h2 h3 h4 h5 h6
       cases h
       simp only [List.set_cons_succ,asm,h1,h2,h3,h4,h5,h6,Ty.width,Nat.add_sub_cancel]
     · cases h
   · cases h
 | unit =>
   intro cs x r off h ho v
   simp only [asm,Option.some.injEq,Prod.mk.injEq] at h ⊢
   obtain ⟨_,rfl⟩:=h
   exact ⟨trivial,by simp [Ty.width]⟩
 | int k =>
   intro cs x r off h ho v
   obtain ⟨c,rfl,h'⟩:=Zeg rfl (by simp) h
   obtain ⟨n,rfl⟩:∃ n,off = n + 1:=⟨off - 1,by have ho:1 <= off:=ho; omega⟩
   simp [asm,h',Ty.width]
 | bool =>
   intro cs x r off h ho v
   obtain ⟨c,rfl,h'⟩:=Zeg rfl (by simp) h
   obtain ⟨n,rfl⟩:∃ n,off = n + 1:=⟨off - 1,by have ho:1 <= off:=ho; omega⟩
   simp [asm,h',Ty.width]
 | str =>
   intro cs x r off h ho v
   obtain ⟨c,rfl,h'⟩:=Zeg rfl (by simp) h
   obtain ⟨n,rfl⟩:∃ n,off = n + 1:=⟨off - 1,by have ho:1 <= off:=ho; omega⟩
   simp [asm,h',Ty.width]
 | err =>
   intro cs x r off h ho v
   obtain ⟨c,rfl,h'⟩:=Zeg rfl (by simp) h
   obtain ⟨n,rfl⟩:∃ n,off = n + 1:=⟨off - 1,by have ho:1 <= off:=ho; omega⟩
   simp [asm,h',Ty.width]
 | sl e _ =>
   intro cs x r off h ho v
   obtain ⟨c,rfl,h'⟩:=Zeg rfl (by simp) h
   obtain ⟨n,rfl⟩:∃ n,off = n + 1:=⟨off - 1,by have ho:1 <= off:=ho; omega⟩
   simp [asm,h',Ty.width]
theorem Zd9:∀ (τ:Ty) (x:D τ),(Zds τ x).length = τ.width
 | .pr a b,x=>by
   show (Zds a x.1 ++ Zds b x.2).length = _
   rw [List.length_append,Zd9 a,Zd9 b]; rfl
 | .q,_=>rfl
 | .unit,_=>rfl
 | .int _,_=>rfl
 | .bool,_=>rfl
 | .str,_=>rfl
 | .err,_=>rfl
 | .sl _,_=>rfl
theorem asm_get (m:Hp):∀ (τ:Ty) {cs:List V} {x:D τ} {r:List V},asm m τ cs = some (x,r) -> r = cs.drop τ.width /\ τ.width <= cs.length /\
  ∀ off < τ.width,∀ v,cs[off]? = some v -> ∃ (σ:Ty) (y:D σ),(Zds τ x)[off]? = some (.val σ y) /\ Zel m σ v = some y:=by
 have leaf:∀ (τ:Ty),τ.width = 1 -> ∀ {cs:List V} {x:D τ} {r:List V},Zds τ x = [.val τ x] -> (∃ v,cs = v :: r /\ Zel m τ v = some x) -> r = cs.drop τ.width /\ τ.width <= cs.length /\
   ∀ off < τ.width,∀ v,cs[off]? = some v -> ∃ (σ:Ty) (y:D σ),(Zds τ x)[off]? = some (.val σ y) /\ Zel m σ v = some y:=by
  rintro τ hw cs x r hl ⟨v,rfl,h⟩
  rw [hw,hl]
  refine ⟨rfl,by simp,fun off ho v' hv=>?_⟩
  obtain rfl:off = 0:=by omega
  simp at hv; subst hv
  exact ⟨τ,x,rfl,h⟩
 intro τ
 induction τ with
 | pr a b iha ihb =>
   intro cs x r h
   simp only [asm] at h
   split at h
   · rename_i x1 r1 h1
     split at h
     · rename_i x2 r2 h2
       cases h
       obtain ⟨e1,e2,e3⟩:=iha h1
       obtain ⟨f1,f2,f3⟩:=ihb h2
       subst e1
       rw [List.length_drop] at f2
       refine ⟨by rw [f1,List.drop_drop]; rfl,by show a.width + b.width <= _; omega,fun off ho v hv=>?_⟩
       show ∃ (σ:Ty) (y:D σ),(Zds a x1 ++ Zds b x2)[off]? = some (.val σ y) /\ Zel m σ v = some y
       have ho:off < a.width + b.width:=ho
       by_cases hlt:off < a.width
       · rw [List.getElem?_append_left (by rw [Zd9]; exact hlt)]
         exact e3 off hlt v hv
       · rw [List.getElem?_append_right (by rw [Zd9]; omega),Zd9]
         exact f3 (off - a.width) (by omega) v (by rw [List.getElem?_drop,Nat.add_sub_cancel' (by omega)]; exact hv)
     · cases h
   · cases h
 | q =>
   intro cs x r h
   simp only [asm] at h
   split at h
   · split at h
     · rename_i h1 h2 h3 h4 h5 h6
       cases h
       refine ⟨rfl,by simp [Ty.width],fun off ho v hv=>?_⟩
       have ho:off < 6:=ho
       rcases off with _ | _ | _ | _ | _ | _ | off <;> simp at hv
       · subst hv; exact ⟨_,_,rfl,h1⟩
       · subst hv; exact ⟨_,_,rfl,h2⟩
       · subst hv; exact ⟨_,_,rfl,h3⟩
       · subst hv; exact ⟨_,_,rfl,h4⟩
       · subst hv; exact ⟨_,_,rfl,h5⟩
       · subst hv; exact ⟨_,_,rfl,h6⟩
       · omega
     · cases h
   · cases h
 | unit =>
   intro cs x r h
   simp only [asm,Option.some.injEq,Prod.mk.injEq] at h
   obtain ⟨_,rfl⟩:=h
   exact ⟨rfl,Nat.zero_le _,fun off ho=>absurd ho (Nat.not_lt_zero _)⟩
 | int k=>intro cs x r h; exact leaf _ rfl rfl (Zeg rfl (by simp) h)
 | bool=>intro cs x r h; exact leaf _ rfl rfl (Zeg rfl (by simp) h)
 | str=>intro cs x r h; exact leaf _ rfl rfl (Zeg rfl (by simp) h)
 | err=>intro cs x r h; exact leaf _ rfl rfl (Zeg rfl (by simp) h)
 | sl e _=>intro cs x r h; exact leaf _ rfl rfl (Zeg rfl (by simp) h)
theorem Zgm {cs:List V} {off:Nat} {σ:Ty} {l:List (D σ)} (h:Zhl cs off σ = some l):cs[off]? = some (.val (.sl σ) l):=by
 unfold Zhl at h
 split at h
 · rename_i τ y hc
   obtain ⟨e,rfl⟩:=Zcb h
   subst e; exact hc
 · cases h
theorem asm_set (m:Hp):∀ (τ:Ty) {cs:List V} {x:D τ} {r:List V} {off:Nat} {σ:Ty} {l:List (D σ)},asm m τ cs = some (x,r) -> (Zds τ x)[off]? = some (.val (.sl σ) l) ->
  ∃ x0:D τ,asm m τ (cs.set off .nil) = some (x0,r) /\ ∀ v,(Zds τ x).set off v = (Zds τ x0).set off v:=by
 have leaf:∀ (τ:Ty) {cs:List V} {x:D τ} {r:List V} {off:Nat} {σ:Ty} {l:List (D σ)},Zds τ x = [.val τ x] -> (∃ v,cs = v :: r /\ Zel m τ v = some x) -> (Zds τ x)[off]? = some (.val (.sl σ) l) -> off = 0 /\ τ = .sl σ /\ ∃ v,cs = v :: r:=by
  rintro τ cs x r off σ l hl ⟨v,rfl,h⟩ hx
  rw [hl] at hx
  cases off with
  | succ n=>simp at hx
  | zero =>
    simp at hx
    exact ⟨rfl,hx.1,v,rfl⟩
 intro τ
 induction τ with
 | pr a b iha ihb =>
   intro cs x r off σ l h hx
   simp only [asm] at h
   split at h
   · rename_i x1 r1 h1
     split at h
     · rename_i x2 r2 h2
       cases h
       obtain ⟨e1,e2,_⟩:=asm_get m a h1
       have hx:(Zds a x1 ++ Zds b x2)[off]? = some (.val (.sl σ) l):=hx
       by_cases hlt:off < a.width
       · rw [List.getElem?_append_left (by rw [Zd9]; exact hlt)] at hx
         obtain ⟨x0,k1,k2⟩:=iha h1 hx
         refine ⟨(x0,x2),by simp only [asm,k1,h2],fun v=>?_⟩
         show (Zds a x1 ++ Zds b x2).set off v = (Zds a x0 ++ Zds b x2).set off v
         rw [List.set_append_left _ _ (by rw [Zd9]; exact hlt),List.set_append_left _ _ (by rw [Zd9]; exact hlt),k2]
       · rw [List.getElem?_append_right (by rw [Zd9]; omega),Zd9] at hx
         obtain ⟨x0,k1,k2⟩:=ihb h2 hx
         have h1':asm m a (cs.set off .nil) = some (x1,r1.set (off - a.width) .nil):=asm_right m a h1 (by omega) _
         refine ⟨(x1,x0),by simp only [asm,h1',k1],fun v=>?_⟩
         show (Zds a x1 ++ Zds b x2).set off v = (Zds a x1 ++ Zds b x0).set off v
         rw [List.set_append_right _ _ (by rw [Zd9]; omega),List.set_append_right _ _ (by rw [Zd9]; omega),Zd9,k2]
     · cases h
   · cases h
 | q =>
   intro cs x r off σ l h hx
   simp only [asm] at h
   split at h
   · split at h
     · rename_i h1 h2 h3 h4 h5 h6
       cases h
       rcases off with _ | _ | _ | _ | _ | _ | off <;> simp [Zds] at hx
       rename_i a' b' c' d' e' f'
       refine ⟨.mk a' b' c' d' e' [],?_,fun v=>rfl⟩
       simp only [List.set,asm,h1,h2,h3,h4,h5]
       rfl
     · cases h
   · cases h
 | unit=>intro cs x r off σ l h hx; simp [Zds] at hx
 | int k=>intro cs x r off σ l h hx; have:=(leaf _ rfl (Zeg rfl (by simp) h) hx).2.1; cases this
 | bool=>intro cs x r off σ l h hx; have:=(leaf _ rfl (Zeg rfl (by simp) h) hx).2.1; cases this
 | str=>intro cs x r off σ l h hx; have:=(leaf _ rfl (Zeg rfl (by simp) h) hx).2.1; cases this
 | err=>intro cs x r off σ l h hx; have:=(leaf _ rfl (Zeg rfl (by simp) h) hx).2.1; cases this
 | sl e _ =>
   intro cs x r off σ l h hx
   obtain ⟨rfl,_,v,rfl⟩:=leaf _ rfl (Zeg rfl (by simp) h) hx
   exact ⟨([]:List (D e)),by simp [asm,Zel,Zeq],fun v=>rfl⟩
theorem set_same {α:Type} {l:List α} {i:Nat} {x:α} (h:l[i]? = some x):l.set i x = l:=by
 obtain ⟨h1,rfl⟩:=List.getElem?_eq_some_iff.1 h
 exact List.set_getElem_self h1
theorem RL.put {F B:Nat -> Prop} {w:World} {μ:Mu} {v:V} {cv:Value}:∀ {cs:List V} {vs:List Value} {i:Nat},RL F B w μ cs vs -> R F B w μ v cv -> RL F B w μ (cs.set i v) (vs.set i cv)
 | [],vs,i,h,_=>by cases vs with | nil=>simp [RL] | cons _ _=>simp [RL] at h
 | c :: cs,[],i,h,_=>by simp [RL] at h
 | c :: cs,x :: vs,0,h,hr=>by simp only [List.set_cons_zero,RL] at h ⊢; exact ⟨hr,h.2⟩
 | c :: cs,x :: vs,i + 1,h,hr=>by simp only [List.set_cons_succ,RL] at h ⊢; exact ⟨h.1,RL.put h.2 hr⟩
theorem RL_swap {F F' B B':Nat -> Prop} {w w':World} {μ μ':Mu} (hF:∀ b,F b -> F' b) (hk:Keep F w w') {u v:V} {cv:Value}:∀ {cs:List V} {vs:List Value} {off:Nat},RL F B w μ (cs.set off u) vs -> vs[off]? = some cv -> R F' B' w' μ' v cv -> (cs.set off .nil).all Zep = true ->
  RL F' B' w' μ' (cs.set off v) vs
 | [],vs,off,h,hv,hr,_=>by cases vs with | nil=>simp at hv | cons _ _=>simp [RL] at h
 | c :: cs,[],off,h,hv,hr,_=>by simp at hv
 | c :: cs,x :: vs,0,h,hv,hr,hf=>by
   simp only [List.set_cons_zero,RL] at h ⊢
   simp only [List.set_cons_zero,List.all_cons,Bool.and_eq_true] at hf
   simp at hv; subst hv
   exact ⟨hr,Zhh hF hk hf.2 h.2⟩
 | c :: cs,x :: vs,off + 1,h,hv,hr,hf=>by
   simp only [List.set_cons_succ,RL] at h ⊢
   simp only [List.set_cons_succ,List.all_cons,Bool.and_eq_true] at hf
   exact ⟨Zgs hF hk hf.1 h.1,RL_swap hF hk h.2 (by simpa using hv) hr hf.2⟩
theorem all_set {cs:List V} {off:Nat} {v:V} (h:cs.all Zep = true) (hv:Zep v = true):(cs.set off v).all Zep = true:=by
 rw [List.all_eq_true] at h ⊢
 intro x hx
 rcases List.mem_or_eq_of_mem_set hx with hx | rfl
 · exact h x hx
 · exact hv
theorem handP_ok (h:Mem G w0 Ob A B F μ m w) (hF:∀ b,F b -> A' b) (hB:∀ b,B b -> B' b) {v:V} {cv:Value} (hr:R F B w μ v cv)
  (hp:∀ b,v = .ptr b 0 -> ∀ cs q ad,m.at b = some (.cs cs) -> μ b = some (some q) -> q.a = some ad -> B' ad.block):R A' B' w noMu (Zik m v) cv:=by
 have und:R A' B' w noMu .undef cv:=by simp only [R]
 cases v with
 | ptr b off =>
   cases off with
   | succ n=>simp only [Zik,Zep]; exact und
   | zero =>
     simp only [Zik]
     split
     · rename_i cs hb
       split
       · rename_i hi
         obtain ⟨q,e4,ad,vs,k1,k2,k3,k4,k5⟩:=h.box b _ hb
         simp only [R] at hr
         obtain ⟨o',e1,p,e2,e3⟩:=hr
         rw [e1] at e4; cases e4
         obtain ⟨ad',e5,rfl⟩:=e3 q rfl
         rw [k1] at e5; cases e5
         simp only [R]
         exact ⟨_,vs,e2,rfl,hp b rfl cs q ad hb e1 k1,Zhh hF (Zd3 _ _) hi k3,by simpa using k4⟩
       · exact und
     · exact und
 | rc cs =>
   simp only [Zik]
   split
   · rename_i hi
     simp only [R] at hr ⊢
     obtain ⟨ad,vs,e1,e2,e3,e4,e5⟩:=hr
     exact ⟨ad,vs,e1,e2,hB _ e3,Zhh hF (Zd3 _ _) hi e4,e5⟩
   · exact und
 | rp τ x =>
   simp only [Zik]
   simp only [R] at hr ⊢
   obtain ⟨ad,cs,e1,e2,e3,e4,e5⟩:=hr
   exact ⟨ad,cs,e1,e2,hF _ e3,e4.mono hF (Zd3 _ _),e5⟩
 | val τ x=>exact Zgs (B:=B) (μ:=μ) hF (Zd3 _ _) (v:=.val τ x) rfl hr
 | nil=>exact Zgs (B:=B) (μ:=μ) hF (Zd3 _ _) (v:=.nil) rfl hr
 | nilp=>exact Zgs (B:=B) (μ:=μ) hF (Zd3 _ _) (v:=.nilp) rfl hr
 | undef=>exact und
 | agg cs=>exact und
 | tup cs=>exact und
 | arr b=>exact und
 | ep b i off=>exact und
 | cut b lo hi=>exact und
 | map b=>exact und
 | it b=>exact und
 | fn f cs=>exact und
def ptrs:V -> List Nat
 | .ptr b 0=>[b]
 | .fn _ caps=>caps.filterMap fun v=>match v with | .ptr b 0=>some b | _=>none
 | _=>[]
def InP (Y:Nat -> Prop) (μ:Mu) (m:Hp) (l:List Nat):Prop:=∀ b ∈ l,∀ cs q ad,m.at b = some (.cs cs) -> μ b = some (some q) -> q.a = some ad -> Y ad.block
theorem handL_ok (h:Mem G w0 Ob A B F μ m w) (hF:∀ b,F b -> A' b) (hB:∀ b,B b -> B' b):∀ {l:List V} {vs:List Value},RL F B w μ l vs ->
  InP B' μ m (l.filterMap fun v=>match v with | .ptr b 0=>some b | _=>none) -> RL A' B' w noMu (l.map (Zik m)) vs
 | [],[],_,_=>by simp only [List.map_nil,RL]
 | a :: x,b :: y,hr,hp=>by
   simp only [RL] at hr
   simp only [List.map_cons,RL]
   refine ⟨handP_ok h hF hB hr.1 (fun c e=>?_),handL_ok h hF hB hr.2 (fun c hc=>hp c ?_)⟩
   · subst e; exact hp c (by simp)
   · rw [List.filterMap_cons]; split
     · exact hc
     · exact List.mem_cons_of_mem _ hc
 | [],_ :: _,h,_=>by simp only [RL] at h
 | _ :: _,[],h,_=>by simp only [RL] at h
theorem handed_ok (h:Mem G w0 Ob A B F μ m w) (hF:∀ b,F b -> A' b) (hB:∀ b,B b -> B' b) {v:V} {cv:Value} (hr:R F B w μ v cv) (hA:In A' μ m w (arrs v)) (hp:InP B' μ m (ptrs v)) (τ:Option Ty) :
  R A' B' w noMu (handed m τ v) cv:=by
 have und:R A' B' w noMu .undef cv:=by simp only [R]
 have hP:=handP_ok (A':=A') (B':=B') h hF hB hr (fun b e cs q ad=>hp b (by subst e; simp [ptrs]) cs q ad)
 have gen:R A' B' w noMu (match τ with
  | none=>Zik m v
  | some τ=>match Zgh m τ v with
    | some x=>.val τ x
    | none=>.undef) cv:=by
  cases τ with
  | none=>exact hP
  | some τ =>
    simp only
    split
    · rename_i x hx
      have k:=typed_ok h hF hr hA hx
      simp only [R]
      cases hτ:τ.agg with
      | true=>exact k.1 hτ
      | false=>exact k.2 hτ
    · exact und
 cases v with
 | fn f caps =>
   simp only [handed]
   simp only [R] at hr ⊢
   obtain ⟨c,e,k⟩:=hr
   exact ⟨c,e,handL_ok h hF hB k hp⟩
 | rp τ x=>simp only [handed]; simpa only [Zik] using hP
 | rc cs=>simp only [handed]; exact hP
 | nilp=>simp only [handed]; simpa only [Zik,Zep,if_true] using hP
 | val σ x=>exact gen
 | undef=>exact gen
 | nil=>exact gen
 | agg cs=>exact gen
 | tup cs=>exact gen
 | arr b=>exact gen
 | ptr b off=>exact gen
 | ep b i off=>exact gen
 | cut b lo hi=>exact gen
 | map b=>exact gen
 | it b=>exact gen
def KeyOk (offs:List (Nat × Nat)) (m:Hp) (μ:Mu) (io:Nat -> Option MB) (j:Nat) (v:V):Prop :=
 (∃ b q cs,v = .ptr b 0 /\ m.at b = some (.cs cs) /\ μ b = some (some q) /\ io j = some q) ∨ (∃ b q σ l,v = .arr b /\ m.at b = some (.rows σ l) /\ μ b = some (some q) /\ io j = some q) ∨
 (∃ off cs b q σ l,look offs j = some off /\ v = .agg cs /\ cs[off]? = some (.arr b) /\ (cs.set off .nil).all Zep = true /\ m.at b = some (.rows σ l) /\ μ b = some (some q) /\ io j = some q)
theorem handed_agg {m:Hp} {τ:Option Ty} {cs:List V} {v:V} (h:handed m τ (.agg cs) = v):v = .undef ∨ ∃ σ x,v = .val σ x /\ σ.agg = true /\ asm m σ cs = some (x,[]):=by
 cases τ with
 | none=>left; rw [← h]; rfl
 | some τ =>
   simp only [handed] at h
   split at h
   · rename_i x hx
     right
     refine ⟨τ,x,h.symm,?_⟩
     simp only [Zgh] at hx
     split at hx
     · rename_i hτ
       split at hx
       · rename_i y hy; cases hx; exact ⟨hτ,hy⟩
       · cases hx
     · cases hx
   · exact .inl h.symm
theorem key_st (h:Mem G w0 Ob A B F μ m w) (hF:∀ b,F b -> A' b) {io:Nat -> Option MB} {j:Nat} {v:V} {cv:Value} {offs:List (Nat × Nat)} (hk:KeyOk offs m μ io j v) (hr:R F B w μ v cv) {τ:Option Ty} {cs:List V} (he:handed m τ v = .rc cs) :
  ∃ q ad,io j = some q /\ q.a = some ad /\ cv = .pointer (some ⟨ad.block,ad.off,none⟩) /\ Zd2 A' B' w noMu (.cs cs) q:=by
 rcases hk with ⟨b,q,cs0,rfl,hb,hq,hio⟩ | ⟨b,q,σ,l,rfl,hb,hq,hio⟩ | ⟨off,cs0,b,q,σ,l,_,rfl,_⟩
 · cases τ with
   | some τ=>cases τ <;> simp [handed,Zgh,Zel,Zeq,dpOf] at he
   | none =>
     simp only [handed,Zik,hb] at he
     split at he
     · rename_i hi
       cases he
       obtain ⟨q',e4,ad,vs,k1,k2,k3,k4,k5⟩:=h.box b _ hb
       rw [hq] at e4; cases e4
       simp only [R] at hr
       obtain ⟨o',e1,p,e2,e3⟩:=hr
       rw [hq] at e1; cases e1
       obtain ⟨ad',e5,rfl⟩:=e3 q rfl
       rw [k1] at e5; cases e5
       exact ⟨q,ad,hio,k1,e2,ad,vs,k1,k2,Zhh hF (Zd3 _ _) hi k3,k4,k5⟩
     · cases he
 · cases τ with
   | none=>simp [handed,Zik,Zep] at he
   | some τ =>
     simp only [handed] at he
     split at he <;> cases he
 · rcases handed_agg he with h | ⟨σ',x,h,_⟩ <;> cases h
theorem key_io (h:Mem G w0 Ob A B F μ m w) (hF:∀ b,F b -> A' b) {io:Nat -> Option MB} {j:Nat} {v:V} {cv:Value} {offs:List (Nat × Nat)} (hk:KeyOk offs m μ io j v) (hr:R F B w μ v cv) {τ:Option Ty} {e:Ty} {l:List (D e)} (he:handed m τ v = .val (.sl e) l) :
  ∃ q,io j = some q /\ cv = .slice q.a q.len q.cap /\ Zd2 A' B' w noMu (.rows e l) q:=by
 rcases hk with ⟨b,q,cs0,rfl,hb,hq,hio⟩ | ⟨b,q,σ,l0,rfl,hb,hq,hio⟩ | ⟨off,cs0,b,q,σ,l0,_,rfl,_⟩
 · cases τ with
   | some τ=>cases τ <;> simp [handed,Zgh,Zel,Zeq,dpOf] at he
   | none =>
     simp only [handed,Zik,hb] at he
     split at he <;> cases he
 · cases τ with
   | none=>simp [handed,Zik,Zep] at he
   | some τ =>
     simp only [handed] at he
     split at he
     · rename_i x hx
       cases he
       simp only [Zgh] at hx
       obtain ⟨e1,rfl⟩:=Zcb (Zin hb hx)
       cases e1
       obtain ⟨q',e4,k⟩:=h.box b _ hb
       rw [hq] at e4; cases e4
       simp only [R] at hr
       obtain ⟨o',e1,a0,n0,c0,rfl,e3⟩:=hr
       rw [hq] at e1; cases e1
       obtain ⟨rfl,rfl,rfl⟩:=e3 q rfl
       obtain ⟨k1,k2,k3,k4,k5⟩:=k
       exact ⟨q,hio,rfl,k1,k2,k3,k4,fun ad ea=>⟨(k5 ad ea).1,(k5 ad ea).2.1.mono hF (Zd3 _ _) (fun _ _ e=>e),(k5 ad ea).2.2⟩⟩
     · cases he
 · rcases handed_agg he with h | ⟨σ',x,h,k,_⟩
   · cases h
   · cases h; cases k
theorem key_mx (h:Mem G w0 Ob A B F μ m w) (hF:∀ b,F b -> A' b) {io:Nat -> Option MB} {j:Nat} {v:V} {cv:Value} {offs:List (Nat × Nat)} (hk:KeyOk offs m μ io j v) (hr:R F B w μ v cv) {τ:Option Ty} {σ:Ty} {y:D σ} (he:handed m τ v = .val σ y) (hσ:σ.agg = true)
  {off:Nat} (ho:look offs j = some off) {e:Ty} {l:List (D e)} (hl:Zhl (Zds σ y) off e = some l) :
  ∃ q us,io j = some q /\ cv = .agg us /\ RL A' B' w noMu ((Zds σ y).set off .undef) us.toList /\ us.toList[off]? = some (.slice q.a q.len q.cap) /\ Zd2 A' B' w noMu (.rows e l) q:=by
 rcases hk with ⟨b,q,cs0,rfl,hb,hq,hio⟩ | ⟨b,q,σ2,l0,rfl,hb,hq,hio⟩ | ⟨off',cs0,b,q,σ',l0,ho',rfl,hcs,hfree,hb,hq,hio⟩
 · cases τ with
   | some τ=>cases τ <;> simp [handed,Zgh,Zel,Zeq,dpOf] at he
   | none =>
     simp only [handed,Zik,hb] at he
     split at he <;> cases he
 · cases τ with
   | none=>simp [handed,Zik,Zep] at he
   | some τ =>
     simp only [handed] at he
     split at he
     · rename_i x hx
       cases he
       cases σ with
       | pr _ _=>simp [Zgh,Zel] at hx
       | q=>simp [Zgh,Zel] at hx
       | _=>cases hσ
     · cases he
 · rw [ho] at ho'; cases ho'
   rcases handed_agg he with h' | ⟨ρ,x,h',_,hx⟩
   · cases h'
   cases h'
   simp only [R] at hr
   obtain ⟨us,rfl,hr⟩:=hr
   have hw:off < σ.width:=by
    have:=(List.getElem?_eq_some_iff.1 (Zgm hl)).1
    rwa [Zd9] at this
   obtain ⟨_,_,hg⟩:=asm_get m σ hx
   obtain ⟨ρ,z,hz,hz1⟩:=hg off hw _ hcs
   rw [Zgm hl] at hz
   cases hz
   obtain ⟨e1,rfl⟩:=Zcb (Zin hb hz1)
   cases e1
   obtain ⟨x0,hx0,hset⟩:=asm_set m σ hx (Zgm hl)
   obtain ⟨cv,hcv,hrc⟩:=RL.get hr hcs
   simp only [R] at hrc
   obtain ⟨o',e1,a0,n0,c0,rfl,e3⟩:=hrc
   rw [hq] at e1; cases e1
   obtain ⟨rfl,rfl,rfl⟩:=e3 q rfl
   obtain ⟨q',e4,k⟩:=h.box b _ hb
   rw [hq] at e4; cases e4
   obtain ⟨k1,k2,k3,k4,k5⟩:=k
   refine ⟨q,us,hio,rfl,?_,hcv,k1,k2,k3,k4,fun ad ea=>⟨(k5 ad ea).1,(k5 ad ea).2.1.mono hF (Zd3 _ _) (fun _ _ e=>e),(k5 ad ea).2.2⟩⟩
   have hr0:RL F B w μ (cs0.set off .nil) (us.toList.set off (.slice none 0 0)):=RL.put hr (by simp only [R])
   have harr:(cs0.set off .nil).flatMap Ze3 = []:=by
    rw [List.flatMap_eq_nil_iff]
    rw [List.all_eq_true] at hfree
    intro c hc
    have:=hfree c hc
    cases c <;> simp [Zep] at this <;> rfl
   obtain ⟨v1,v2,f1,f2,f3,_⟩:=asm_ok h hF σ hr0 (by rw [harr]; exact In.nil) hx0
   have:v2 = []:=by cases v2 with
    | nil=>rfl
    | cons _ _=>simp [RL] at f3
   subst this
   rw [List.append_nil] at f1; subst f1
   have k:=Zgr (B:=B') (μ:=noMu) σ f2
   rw [hset .undef]
   have:=RL.put (i:=off) k (v:=.undef) (cv:=.slice q.a q.len q.cap) (by simp only [R])
   rwa [List.set_set,set_same hcv] at this
theorem handAll_cons (m:Hp) (v:V) (l:List V) (ts:List Nat):∃ τ ts',handAll E m (v :: l) ts = handed m τ v :: handAll E m l ts':=by
 cases ts with
 | nil=>exact ⟨none,[],rfl⟩
 | cons t ts=>exact ⟨_,ts,rfl⟩
end
end Go.E
namespace Go.E
open Go Go.RowKit
section
variable {P:Program} {E:Env} {G:List (Nat × List V)} {w0:World} {Ob A B F F' F2 A' B' X:Nat -> Prop} {μ μ' μr μ2:Mu} {m:Hp} {w w':World} {base:Nat} {s:St} {a:Act} {v:V} {m':Hp}
theorem RC_noSl:∀ {τ:Ty} {x:D τ} {cs:List Value},τ.hasSl = false -> RC F w τ x cs -> RC F' w τ x cs:=by
 intro τ
 induction τ with
 | int k=>intro x cs _ h; exact h
 | bool=>intro x cs _ h; exact h
 | str=>intro x cs _ h; exact h
 | err=>intro x cs _ h; exact h
 | unit=>intro x cs _ h; exact h
 | pr a b iha ihb =>
   intro x cs hs h
   simp only [Ty.hasSl,Bool.or_eq_false_iff] at hs
   simp only [RC] at h ⊢; obtain ⟨c,d,e,h1,h2⟩:=h; exact ⟨c,d,e,iha hs.1 h1,ihb hs.2 h2⟩
 | sl e ih=>intro x cs hs h; simp [Ty.hasSl] at hs
 | q=>intro x cs hs h; simp [Ty.hasSl] at hs
theorem slOf_hasSl {τ:Ty} {x:D τ} (h:slOf τ x = true):τ.hasSl = true:=by
 cases τ <;> first | rfl | exact h
theorem RC_noSl' {τ:Ty} {x:D τ} {cs:List Value} (hτ:slOf τ x = false) (h:RC F w τ x cs):RC F' w τ x cs:=by
 cases τ with
 | sl e =>
   have hx:∀ l:List (D e),slOf (.sl e) l = false -> l = []:=fun l h=>by
    cases l with
    | nil=>rfl
    | cons y r=>cases h
   have hx:=hx x hτ
   subst hx
   simp only [RC] at h ⊢
   obtain ⟨a,cap,h1,h2,h3,h4⟩:=h
   exact ⟨a,cap,h1,h2,h3,fun ad _ hc=>absurd hc (Nat.lt_irrefl 0)⟩
 | q=>cases hτ
 | pr a b=>exact RC_noSl hτ h
 | int k=>exact h
 | bool=>exact h
 | str=>exact h
 | err=>exact h
 | unit=>exact h
def Conv (hs:Bool) (F' F2:Nat -> Prop) (w:World):Prop:=∀ (τ:Ty) (x:D τ) cs,(slOf τ x = true -> hs = true) -> RC F' w τ x cs -> RC F2 w τ x cs
theorem conv_mk {hs:Bool} (h:hs = true -> ∀ b,F' b -> F2 b):Conv hs F' F2 w:=fun τ x cs ht hr=>by
 cases hτ:slOf τ x with
 | true=>exact hr.mono (h (ht hτ)) (Zd3 _ _)
 | false=>exact RC_noSl' hτ hr
theorem conv_free {hs:Bool} (C:Conv hs F' F2 w) {v:V} {cv:Value} (hv:Zep v = true) (hh:Zhq v = true -> hs = true) (h:R F' B' w μr v cv):R F2 B w μ2 v cv:=by
 cases v <;> simp [Zep] at hv
 · rename_i τ x
   simp only [R] at h ⊢
   cases hτ:τ.agg with
   | true=>rw [hτ] at h; obtain ⟨cs,e,k⟩:=h; exact ⟨cs,e,C _ _ _ hh k⟩
   | false=>rw [hτ] at h; exact C _ _ _ hh h
 · simp only [R] at h ⊢; exact h
 · simp only [R] at h ⊢; exact h
theorem conv_freeL {hs:Bool} (C:Conv hs F' F2 w):∀ {cs:List V} {vs:List Value},cs.all Zep = true -> (cs.any Zhq = true -> hs = true) -> RL F' B' w μr cs vs -> RL F2 B w μ2 cs vs
 | [],[],_,_,_=>by simp only [RL]
 | a :: x,b :: y,hc,hh,h=>by
   simp only [List.all_cons,Bool.and_eq_true] at hc
   simp only [List.any_cons,Bool.or_eq_true] at hh
   simp only [RL] at h ⊢
   exact ⟨conv_free C hc.1 (fun e=>hh (.inl e)) h.1,conv_freeL C hc.2 (fun e=>hh (.inr e)) h.2⟩
 | [],_ :: _,_,_,h=>by simp only [RL] at h
 | _ :: _,[],_,_,h=>by simp only [RL] at h
theorem hasSl1_ty {v:V} (h:Zhq v = true):hasTy v = true:=by
 cases v <;> first | exact slOf_hasSl h | cases h
theorem any_ty {cs:List V} (h:cs.any Zhq = true):cs.any hasTy = true:=by
 rw [List.any_eq_true] at h ⊢
 obtain ⟨v,h1,h2⟩:=h
 exact ⟨v,h1,hasSl1_ty h2⟩
theorem anyEm_of (em:List Nat):∀ (cs:List V) (k:Nat),cs.any Zhq = true -> anyEm em k cs = true
 | [],_,h=>by simp at h
 | v :: r,k,h=>by
   rw [List.any_cons,Bool.or_eq_true] at h
   unfold anyEm
   rw [Bool.or_eq_true]
   rcases h with h | h
   · left; split
     · exact h
     · exact hasSl1_ty h
   · exact .inr (anyEm_of em r (k + 1) h)
theorem hasSlE_of {em:List Nat} {v:V} (h:hasSl v = true):hasSlE em v = true:=by
 cases v with
 | agg cs=>exact anyEm_of em cs 0 h
 | tup cs =>
   simp only [hasSl,hasSlE,List.any_eq_true] at h ⊢
   obtain ⟨u,h1,h2⟩:=h
   refine ⟨u,h1,?_⟩
   cases u with
   | agg ds=>exact anyEm_of em ds 0 h2
   | val τ x=>exact slOf_hasSl h2
   | _=>cases h2
 | val τ x=>exact slOf_hasSl h
 | _=>cases h
theorem conv_box {hs:Bool} (C:Conv hs F' F2 w) {x:Bx} {q:MB} (hx:okBx x = true) (hh:hasSlB x = true -> hs = true) (h:Zd2 F' B' w noMu x q):Zd2 F2 B w μ2 x q:=by
 cases x with
 | cs cs =>
   simp only [okBx] at hx
   obtain ⟨ad,vs,k1,k2,k3,k4,k5⟩:=h
   exact ⟨ad,vs,k1,k2,conv_freeL C hx (fun e=>hh (any_ty e)) k3,k4,k5⟩
 | rows τ l =>
   obtain ⟨k1,k2,k3,k4,k5⟩:=h
   exact ⟨k1,k2,k3,k4,fun ad e=>⟨(k5 ad e).1,fun i x hi=>by
    obtain ⟨c,j1,j2⟩:=(k5 ad e).2.1 i x hi
    exact ⟨c,C _ _ _ (fun e=>hh (slOf_hasSl e)) j1,j2⟩,(k5 ad e).2.2⟩⟩
 | dp τ l=>exact h
 | _=>simp [okBx] at hx
theorem conv_1 {hs:Bool} (C:Conv hs F' F2 w) (hμ:∀ i o,μr i = some o -> μ2 (base + i) = some o) {v:V} {cv:Value} (hv:Zf1 v = true) (hh:Zhq v = true -> hs = true) (h:R F' B' w μr v cv) :
  R F2 B w μ2 (shift1 base v) cv:=by
 cases v <;> simp [Zf1,Zep] at hv
 · simp only [shift1,R]
 · exact conv_free C rfl hh h
 · exact conv_free C rfl hh h
 · exact conv_free C rfl hh h
 · simp only [shift1,R] at h ⊢
   obtain ⟨o,e,k⟩:=h
   exact ⟨o,hμ _ _ e,k⟩
 · simp only [shift1,R] at h ⊢
   obtain ⟨o,e,k⟩:=h
   exact ⟨o,hμ _ _ e,k⟩
theorem conv_L {hs:Bool} (C:Conv hs F' F2 w) (hμ:∀ i o,μr i = some o -> μ2 (base + i) = some o):∀ {cs:List V} {vs:List Value},cs.all Zf1 = true -> (cs.any Zhq = true -> hs = true) ->
  RL F' B' w μr cs vs -> RL F2 B w μ2 (cs.map (shift1 base)) vs
 | [],[],_,_,_=>by simp only [List.map_nil,RL]
 | a :: x,b :: y,hc,hh,h=>by
   simp only [List.all_cons,Bool.and_eq_true] at hc
   simp only [List.any_cons,Bool.or_eq_true] at hh
   simp only [List.map_cons,RL] at h ⊢
   exact ⟨conv_1 C hμ hc.1 (fun e=>hh (.inl e)) h.1,conv_L C hμ hc.2 (fun e=>hh (.inr e)) h.2⟩
 | [],_ :: _,_,_,h=>by simp only [RL] at h
 | _ :: _,[],_,_,h=>by simp only [RL] at h
def shift2 (base:Nat) (v:V):V:=match v with | .agg ds=>.agg (ds.map (shift1 base)) | v=>shift1 base v
def Zg5 (v:V):Bool:=match v with | .agg ds=>ds.all Zf1 | v=>Zf1 v
def hasSl2 (v:V):Bool:=match v with | .agg ds=>ds.any Zhq | v=>Zhq v
theorem conv_2 {hs:Bool} (C:Conv hs F' F2 w) (hμ:∀ i o,μr i = some o -> μ2 (base + i) = some o) {v:V} {cv:Value} (hv:Zg5 v = true) (hh:hasSl2 v = true -> hs = true) (h:R F' B' w μr v cv) :
  R F2 B w μ2 (shift2 base v) cv:=by
 by_cases ha:∃ ds,v = .agg ds
 · obtain ⟨ds,rfl⟩:=ha
   simp only [shift2,R] at h ⊢
   obtain ⟨vs,e,k⟩:=h
   exact ⟨vs,e,conv_L C hμ hv hh k⟩
 · have e1:shift2 base v = shift1 base v:=by cases v <;> first | rfl | exact absurd ⟨_,rfl⟩ ha
   have e2:Zg5 v = Zf1 v:=by cases v <;> first | rfl | exact absurd ⟨_,rfl⟩ ha
   have e3:hasSl2 v = Zhq v:=by cases v <;> first | rfl | exact absurd ⟨_,rfl⟩ ha
   rw [e1]; exact conv_1 C hμ (e2 ▸ hv) (e3 ▸ hh) h
theorem conv_L2 {hs:Bool} (C:Conv hs F' F2 w) (hμ:∀ i o,μr i = some o -> μ2 (base + i) = some o):∀ {cs:List V} {vs:List Value},cs.all Zg5 = true -> (cs.any hasSl2 = true -> hs = true) ->
  RL F' B' w μr cs vs -> RL F2 B w μ2 (cs.map (shift2 base)) vs
 | [],[],_,_,_=>by simp only [List.map_nil,RL]
 | a :: x,b :: y,hc,hh,h=>by
   simp only [List.all_cons,Bool.and_eq_true] at hc
   simp only [List.any_cons,Bool.or_eq_true] at hh
   simp only [List.map_cons,RL] at h ⊢
   exact ⟨conv_2 C hμ hc.1 (fun e=>hh (.inl e)) h.1,conv_L2 C hμ hc.2 (fun e=>hh (.inr e)) h.2⟩
 | [],_ :: _,_,_,h=>by simp only [RL] at h
 | _ :: _,[],_,_,h=>by simp only [RL] at h
theorem conv_V {hs:Bool} (C:Conv hs F' F2 w) (hμ:∀ i o,μr i = some o -> μ2 (base + i) = some o) {v:V} {cv:Value} (hv:okRes v = true) (hh:hasSl v = true -> hs = true) (h:R F' B' w μr v cv) :
  R F2 B w μ2 (shiftV base v) cv:=by
 by_cases ha:∃ ds,v = .tup ds
 · obtain ⟨ds,rfl⟩:=ha
   simp only [R] at h
   obtain ⟨vs,e,k⟩:=h
   have:R F2 B w μ2 (.tup (ds.map (shift2 base))) cv:=by
    simp only [R]; exact ⟨vs,e,conv_L2 C hμ hv hh k⟩
   exact this
 · have e1:shiftV base v = shift2 base v:=by cases v <;> first | rfl | exact absurd ⟨_,rfl⟩ ha
   have e2:okRes v = Zg5 v:=by cases v <;> first | rfl | exact absurd ⟨_,rfl⟩ ha
   have e3:hasSl v = hasSl2 v:=by cases v <;> first | rfl | exact absurd ⟨_,rfl⟩ ha
   rw [e1]; exact conv_2 C hμ (e2 ▸ hv) (e3 ▸ hh) h
theorem frzBut_ok (K:Nat -> Bool):∀ (l:List (V × Nat)) {F:Nat -> Prop} {m:Hp},Mem G w0 Ob A B F μ m w ->
  ∃ F',Mem G w0 Ob A B F' μ (l.foldl (fun m q=>if K q.2 = true then m else frz m q.1) m) w /\ Tr B F F' μ μ w w /\
    ∀ q ∈ l,K q.2 = false -> In F' μ m w (arrs q.1)
 | [],F,m,h=>⟨F,h,Tr.refl _ _ _ _,by simp⟩
 | (v,i) :: r,F,m,h=>by
   simp only [List.foldl_cons]
   cases hK:K i with
   | true =>
     obtain ⟨F1,h1,t1,k1⟩:=frzBut_ok K r h
     refine ⟨F1,by simpa using h1,t1,fun q hq hk=>?_⟩
     rcases List.mem_cons.1 hq with rfl | hq
     · rw [hK] at hk; cases hk
     · exact k1 q hq hk
   | false =>
     obtain ⟨F1,h1,t1⟩:=h.frz v
     obtain ⟨F2,h2,t2,k2⟩:=frzBut_ok K r h1
     refine ⟨F2,by simpa using h2,t1.trans t2,fun q hq hk=>?_⟩
     have fz:∀ b ∈ arrs v,∀ τ l qq ad,toFz (m.at b) = some (.fz τ l) -> μ b = some (some qq) -> qq.a = some ad -> F2 ad.block /\ Zgu F2 w τ l ad:=fun b hb τ l qq ad hm hμ ha=>by
      have e:(frz m v).at b = some (.fz τ l):=by rw [frz_at,if_pos hb,hm]
      obtain ⟨q',e',k⟩:=h1.box b _ e
      rw [hμ] at e'; cases e'
      exact ⟨t2.sub _ (k.2.2.2.2 ad ha).2.1,(k.2.2.2.2 ad ha).2.2.mono t2.sub (Zd3 _ _) (fun _ _ e=>e)⟩
     have fzI:In F2 μ m w (arrs v):=⟨fun b hb τ l qq ad hm hμ ha=>(fz b hb τ l qq ad (by rw [hm]; rfl) hμ ha).1,fun b hb τ l qq ad hm hμ ha=>fz b hb τ l qq ad (by rw [hm]; rfl) hμ ha⟩
     rcases List.mem_cons.1 hq with rfl | hq
     · exact fzI
     · refine ⟨fun b hb τ l qq ad hm hμ ha=>?_,fun b hb τ l qq ad hm hμ ha=>?_⟩
       · by_cases hbv:b ∈ arrs v
         · exact fzI.1 b hbv τ l qq ad hm hμ ha
         · exact (k2 q hq hk).1 b hb τ l qq ad (by rw [frz_at,if_neg hbv]; exact hm) hμ ha
       · by_cases hbv:b ∈ arrs v
         · exact fzI.2 b hbv τ l qq ad hm hμ ha
         · exact (k2 q hq hk).2 b hb τ l qq ad (by rw [frz_at,if_neg hbv]; exact hm) hμ ha
theorem frzBut_at (K:Nat -> Bool) (c:Nat):∀ (l:List (V × Nat)) (m:Hp),(∀ q ∈ l,K q.2 = false -> c ∉ arrs q.1) -> (l.foldl (fun m q=>if K q.2 = true then m else frz m q.1) m).at c = m.at c
 | [],m,_=>rfl
 | (v,i) :: r,m,h=>by
   simp only [List.foldl_cons]
   rw [frzBut_at K c r _ (fun q hq=>h q (List.mem_cons_of_mem _ hq))]
   cases hK:K i with
   | true=>simp
   | false=>simp [frz_at,h (v,i) (by simp) hK]
theorem Zfh (m:Hp) (b k:Nat):ment m b (k + 1) (.arr b) = true:=by simp [ment]
theorem Zil (m:Hp) (b k o:Nat):ment m b (k + 1) (.ptr b o) = true:=by simp [ment]
theorem ment_arr {b:Nat} {v:V} (h:ment m b 5 v = false):b ∉ arrs v:=by
 cases v with
 | arr c =>
   simp only [arrs,Ze3,List.mem_singleton]
   rintro rfl
   rw [Zfh m b 4] at h; cases h
 | agg cs =>
   simp only [ment,List.any_eq_false] at h
   simp only [arrs,List.mem_flatMap,not_exists,not_and]
   intro x hx hb
   have:=h x hx
   cases x <;> simp [Ze3] at hb
   subst hb; exact this (Zfh m _ 3)
 | tup cs =>
   simp only [ment,List.any_eq_false] at h
   simp only [arrs,List.mem_flatMap,not_exists,not_and]
   intro x hx hb
   have:=h x hx
   cases x <;> simp [Ze3] at hb
   subst hb; exact this (Zfh m _ 3)
 | _=>simp [arrs,Ze3]
theorem ment_ptr {b:Nat} {v:V} (h:ment m b 5 v = false):b ∉ ptrs v:=by
 cases v with
 | ptr c off =>
   cases off with
   | succ n=>simp [ptrs]
   | zero =>
     simp only [ptrs,List.mem_singleton]
     rintro rfl
     rw [Zil m b 4] at h; cases h
 | fn f cs =>
   simp only [ment,List.any_eq_false] at h
   simp only [ptrs,List.mem_filterMap,not_exists,not_and]
   intro x hx hb
   have:=h x hx
   cases x <;> (first | (cases hb; done) | skip)
   rename_i c off
   cases off with
   | succ n=>cases hb
   | zero=>cases hb; exact this (Zil m _ 3 0)
 | _=>simp [ptrs]
end
end Go.E
namespace Go.E
open Go Go.RowKit
structure EnvC (P:Program) (E:Env):Prop where
 ok:EnvOk P E
 ctr:∀ g c,look E.C g = some c -> SatC P E.G g c
 glb:∀ g cs,look E.G g = some cs -> cs.all Zep = true
section
variable {P:Program} {E:Env} {G:List (Nat × List V)} {w0:World} {Ob A B F F' F2 A' B' X:Nat -> Prop} {μ μ' μr μ2:Mu} {m:Hp} {w w':World} {base:Nat} {s:St} {a:Act} {v:V} {m':Hp}
theorem OutsR.mem {offs:List (Nat × Nat)} {args:List V} {m:Hp}:∀ (outs:List (Nat × Bx)) (ids:List Nat),OutsR offs args m outs ids -> ∀ i x,(i,x) ∈ outs -> ∃ b ∈ ids,KindOk offs args i x b (m.at b)
 | [],[],_,i,x,h=>by simp at h
 | (j,y) :: r,b :: bs,k,i,x,h=>by
   rcases List.mem_cons.1 h with e | h
   · cases e; exact ⟨b,by simp,k.1⟩
   · obtain ⟨c,hc,k2⟩:=OutsR.mem r bs k.2 i x h
     exact ⟨c,List.mem_cons_of_mem _ hc,k2⟩
 | [],_ :: _,k,_,_,_=>k.elim
 | _ :: _,[],k,_,_,_=>k.elim
theorem outAt_mem {offs:List (Nat × Nat)} {args:List V} {m:Hp} {o:Option Bx}:∀ (outs:List (Nat × Bx)) (ids:List Nat),OutsR offs args m outs ids -> ∀ c,c ∈ ids -> ∃ i x,(i,x) ∈ outs /\ KindOk offs args i x c (m.at c) /\ outAt outs ids c o = some x
 | [],[],_,c,h=>by simp at h
 | (j,y) :: r,b :: bs,k,c,h=>by
   by_cases e:c = b
   · subst e; exact ⟨j,y,by simp,k.1,by simp [outAt]⟩
   · rcases List.mem_cons.1 h with h | h
     · exact absurd h e
     · obtain ⟨i,x,h1,h2,h3⟩:=outAt_mem r bs k.2 c h
       exact ⟨i,x,List.mem_cons_of_mem _ h1,h2,by rw [outAt,if_neg e]; exact h3⟩
 | [],_ :: _,k,_,_=>k.elim
 | _ :: _,[],k,_,_=>k.elim
theorem hasKey_iff {α:Type} {l:List (Nat × α)} {i:Nat}:hasKey l i = true ↔ ∃ x,(i,x) ∈ l:=by
 unfold hasKey
 rw [List.any_eq_true]
 constructor
 · rintro ⟨⟨j,x⟩,h,e⟩; simp at e; subst e; exact ⟨x,h⟩
 · rintro ⟨x,h⟩; exact ⟨(i,x),h,by simp⟩
theorem apart_spec {offs:List (Nat × Nat)} {outs:List (Nat × Bx)} {args:List V} (h:apartOk m offs outs args = true) {i:Nat} {x:Bx} (hi:(i,x) ∈ outs) :
  ∃ b v,args[i]? = some v /\ idAt offs i v = some b /\ ∀ j u,args[j]? = some u -> j ≠ i -> ment m b 5 u = false:=by
 unfold apartOk at h
 rw [List.all_eq_true] at h
 have h:=h _ hi
 simp only at h
 split at h
 · rename_i b hb
   cases ha:args[i]? with
   | none=>rw [ha] at hb; cases hb
   | some v =>
     rw [ha] at hb
     refine ⟨b,v,rfl,hb,fun j u hj hne=>?_⟩
     rw [List.all_eq_true] at h
     have:=h (u,j) (by rw [List.mem_zipIdx_iff_getElem?]; exact hj)
     simp only [Bool.or_eq_true,beq_iff_eq,Bool.not_eq_true'] at this
     rcases this with this | this
     · exact absurd this hne
     · exact this
 · cases h
theorem KindOk.id {offs:List (Nat × Nat)} {args:List V} {i:Nat} {x:Bx} {b:Nat} {o:Option Bx} (h:KindOk offs args i x b o):∃ v,args[i]? = some v /\ idAt offs i v = some b /\ ∀ m,ment m b 5 v = true:=by
 rcases h with ⟨h0,h,_⟩ | ⟨h0,h,_⟩ | ⟨off,cs,h0,h,hc,_⟩
 · exact ⟨_,h,by unfold idAt; rw [h0]; rfl,fun m=>Zil m b 4 0⟩
 · exact ⟨_,h,by unfold idAt; rw [h0]; rfl,fun m=>Zfh m b 4⟩
 · refine ⟨_,h,by unfold idAt; rw [h0]; simp [hc,idArr],fun m=>?_⟩
   rw [ment,List.any_eq_true]
   exact ⟨_,List.mem_of_getElem? hc,Zfh m b 3⟩
theorem KindOk.box {offs:List (Nat × Nat)} {args:List V} {i:Nat} {x:Bx} {b:Nat} {o:Option Bx} (h:KindOk offs args i x b o):∃ y,o = some y /\ y.isFz = false:=by
 rcases h with ⟨_,_,cs,ds,h,_⟩ | ⟨_,_,σ,l,l',h,_⟩ | ⟨_,_,_,_,_,_,σ,l,l',h,_⟩
 · exact ⟨_,h,rfl⟩
 · exact ⟨_,h,rfl⟩
 · exact ⟨_,h,rfl⟩
def ioM (offs:List (Nat × Nat)) (outs:List (Nat × Bx)) (mvs:List Nat) (args:List V) (μ:Mu) (j:Nat):Option MB :=
 if inPlace outs mvs j = true then ((args[j]?).bind (idAt offs j)).bind fun b=>(μ b).join else none
theorem RC_DR {F:Nat -> Prop} {w:World}:∀ {τ:Ty} {S:Nat -> Prop} {x:D τ} {c:List Value},τ.hasSl = false -> RC F w τ x c -> DR w τ S x c:=by
 intro τ
 induction τ with
 | int k=>intro S x c _ h; exact h
 | bool=>intro S x c _ h; exact h
 | str=>intro S x c _ h; exact h
 | err=>intro S x c _ h; exact h
 | unit=>intro S x c _ h; exact h
 | q=>intro S x c h; cases h
 | sl e _=>intro S x c h; cases h
 | pr a b iha ihb =>
   intro S x c hs h
   simp only [Ty.hasSl,Bool.or_eq_false_iff] at hs
   simp only [RC] at h
   obtain ⟨c1,c2,e,h1,h2⟩:=h
   exact ⟨fun _=>False,fun _=>False,c1,c2,e,fun _ h=>h.elim,fun _ h=>h.elim,fun _ h=>h.elim,iha hs.1 h1,ihb hs.2 h2⟩
def MvBx (τ:Ty) (l:List (D τ)) (x:Bx):Prop:=x = .dp τ l ∨ (x = .rows τ l /\ τ.hasSl = false)
theorem MvBx.fz {τ:Ty} {l:List (D τ)} {x:Bx} (h:MvBx τ l x):x.isFz = false:=by rcases h with rfl | ⟨rfl,_⟩ <;> rfl
theorem MvBx.ok {τ:Ty} {l:List (D τ)} {x:Bx} (h:MvBx τ l x) {S:Nat -> Prop} {μ:Mu} {q:MB} (hb:Zd2 F B w μ x q) (hn:Nest w q S x):Zd2 A' B' w noMu (.dp τ l) q /\ Nest w q S (.dp τ l):=by
 rcases h with rfl | ⟨rfl,hs⟩
 · exact ⟨hb,hn⟩
 · obtain ⟨k1,k2,k3,k4,k5⟩:=hb
   refine ⟨⟨k1,k2,k3,k4,fun ad ha=>⟨(k5 ad ha).1,(k5 ad ha).2.2⟩⟩,fun ad ha=>⟨fun _ _=>False,fun _ _ h=>h.elim,fun _ _ _ h=>h.elim,fun i x _ hx=>?_⟩⟩
   obtain ⟨c,c1,c2⟩:=(k5 ad ha).2.1 i x hx
   exact ⟨c,RC_DR hs c1,c2⟩
def MvOk (m:Hp) (w:World) (μ:Mu) (io:Nat -> Option MB) (nb:Nat -> Nat -> Prop) (j:Nat) (v:V):Prop :=
 ∃ b q τ l x,v = .arr b /\ m.at b = some x /\ MvBx τ l x /\ μ b = some (some q) /\ io j = some q /\ Nest w q (nb j) x
theorem key_mv (h:Mem G w0 Ob A B F μ m w) {io:Nat -> Option MB} {nb:Nat -> Nat -> Prop} {j:Nat} {v:V} {cv:Value} (hk:MvOk m w μ io nb j v) (hr:R F B w μ v cv) {τ:Option Ty} {e:Ty} {l:List (D e)} (he:handed m τ v = .val (.sl e) l) :
  ∃ q,io j = some q /\ cv = .slice q.a q.len q.cap /\ Zd2 A' B' w noMu (.dp e l) q /\ Nest w q (nb j) (.dp e l):=by
 obtain ⟨b,q,σ,l0,x0,rfl,hb,hx0,hq,hio,hn⟩:=hk
 cases τ with
 | none=>simp [handed,Zik,Zep] at he
 | some τ =>
   simp only [handed] at he
   split at he
   · rename_i x hx
     cases he
     simp only [Zgh] at hx
     rcases typed1_arr hx with hx | hx
     all_goals
      have hc:Zev (τ:=.sl σ) (σ:=.sl e) l0 = some l:=by
       rcases hx0 with rfl | ⟨rfl,_⟩
       · first | exact absurd hx (by simp [Zeq,hb]) | simpa only [dpOf,hb] using hx
       · first | exact absurd hx (by simp [dpOf,hb]) | simpa only [Zeq,hb] using hx
      obtain ⟨e1,rfl⟩:=Zcb hc
      cases e1
      obtain ⟨q',e4,k⟩:=h.box b _ hb
      rw [hq] at e4; cases e4
      simp only [R] at hr
      obtain ⟨o',e1,a0,n0,c0,rfl,e3⟩:=hr
      rw [hq] at e1; cases e1
      obtain ⟨rfl,rfl,rfl⟩:=e3 q rfl
      exact ⟨q,hio,rfl,hx0.ok k hn⟩
   · cases he
theorem argR_ok (h:Mem G w0 Ob A B F μ m w) (hF:∀ b,F b -> A' b) (hB:∀ b,B b -> B' b) {io:Nat -> Option MB} {nb:Nat -> Nat -> Prop} {offs:List (Nat × Nat)} {mvs:List Nat} {outs:List (Nat × Bx)} :
  ∀ (l:List V) (k:Nat) (ts:List Nat) (avs:List AV) (vs:List Value),Match offs mvs (outs.map (·.1)) k (handAll E m l ts) avs -> RL F B w μ l vs ->
    (∀ j v,l[j]? = some v -> (inPlace outs mvs (k + j) = false -> In A' μ m w (arrs v) /\ InP B' μ m (ptrs v)) /\ (hasKey outs (k + j) = true -> KeyOk offs m μ io (k + j) v) /\ (k + j ∈ mvs -> MvOk m w μ io nb (k + j) v)) -> ArgR A' B' w io nb k avs vs
 | [],k,ts,[],[],_,_,_=>trivial
 | [],k,ts,[],_ :: _,_,hr,_=>by simp only [RL] at hr
 | [],k,ts,_ :: _,_,hm,_,_=>by simp [handAll,Match] at hm
 | v :: l,k,ts,avs,[],_,hr,_=>by simp only [RL] at hr
 | v :: l,k,ts,[],_ :: _,hm,_,_=>by obtain ⟨τ,ts',e⟩:=handAll_cons (E:=E) m v l ts; rw [e] at hm; simp [Match] at hm
 | v :: l,k,ts,av :: avs,cv :: vs,hm,hr,hp=>by
   obtain ⟨τ,ts',e⟩:=handAll_cons (E:=E) m v l ts
   rw [e] at hm
   simp only [RL] at hr
   simp only [Match] at hm
   simp only [ArgR]
   have key:k ∈ outs.map (·.1) ↔ hasKey outs k = true:=by
    rw [hasKey_iff,List.mem_map]
    exact ⟨fun ⟨⟨i,x⟩,h1,h2⟩=>⟨x,by simp at h2; subst h2; exact h1⟩,fun ⟨x,h⟩=>⟨(k,x),h,rfl⟩⟩
   have h0:=hp 0 v (by simp)
   simp only [Nat.add_zero] at h0
   refine ⟨?_,argR_ok h hF hB l (k + 1) ts' avs vs hm.2 hr.2 (fun j u hj=>by have:=hp (j + 1) u (by simpa using hj); rw [show k + (j + 1) = k + 1 + j by omega] at this; exact this)⟩
   cases av with
   | fr y =>
     simp only at hm ⊢
     obtain ⟨⟨rfl,hk,hk2⟩,_⟩:=hm
     have hk':inPlace outs mvs k = false:=by
      unfold inPlace
      rw [Bool.or_eq_false_iff]
      refine ⟨?_,by simpa using hk2⟩
      cases hh:hasKey outs k with
      | false=>rfl
      | true=>exact absurd (key.2 hh) hk
     exact handed_ok h hF hB hr.1 (h0.1 hk').1 (h0.1 hk').2 τ
   | st cs =>
     simp only at hm ⊢
     obtain ⟨⟨he,hk⟩,_⟩:=hm
     exact key_st h hF (h0.2.1 (key.1 hk)) hr.1 he
   | io σ l' =>
     simp only at hm ⊢
     obtain ⟨⟨he,hk⟩,_⟩:=hm
     exact key_io h hF (h0.2.1 (key.1 hk)) hr.1 he
   | mx cs off σ l' =>
     simp only at hm ⊢
     obtain ⟨⟨⟨ρ,y,he,hρ,rfl,hl⟩,hk,ho⟩,_⟩:=hm
     exact key_mx h hF (h0.2.1 (key.1 hk)) hr.1 he hρ ho hl
   | mv σ l' =>
     simp only at hm ⊢
     obtain ⟨⟨he,hk⟩,_⟩:=hm
     exact key_mv h (h0.2.2 hk) hr.1 he
end
end Go.E
namespace Go.E
open Go Go.RowKit
section
variable {P:Program} {E:Env} {w0:World} {Ob A B F:Nat -> Prop} {μ:Mu} {m:Hp} {w:World} {base:Nat} {s:St} {a:Act} {v:V} {m':Hp}
theorem Does.mono {g:Nat} {vs:Array Value} {K K':Value -> World -> Prop} (h:Does P g vs w K) (hk:∀ v w',K v w' -> K' v w'):Does P g vs w K':=by
 rcases h with ⟨h1,h2⟩ | ⟨v,w',h1,h2⟩
 · exact .inl ⟨h1,h2.mono fun e w' ⟨v,e1,e2⟩=>⟨v,e1,hk _ _ e2⟩⟩
 · exact .inr ⟨v,w',h1,hk _ _ h2⟩
theorem mv_spec {offs:List (Nat × Nat)} {mvs:List Nat} {args:List V} (h:mvOk m offs mvs args = true) {i:Nat} (hi:i ∈ mvs) :
  look offs i = none /\ ∃ b τ l x,args[i]? = some (.arr b) /\ m.at b = some x /\ MvBx τ l x /\ ∀ j u,args[j]? = some u -> j ≠ i -> ment m b 5 u = false:=by
 unfold mvOk at h
 rw [List.all_eq_true] at h
 have h:=h i hi
 rw [Bool.and_eq_true] at h
 obtain ⟨h1,h2⟩:=h
 refine ⟨by simpa using h1,?_⟩
 split at h2
 · rename_i b hb
   split at h2
   · rename_i τ l hm
     refine ⟨b,τ,l,_,hb,hm,.inl rfl,fun j u hj hne=>?_⟩
     rw [List.all_eq_true] at h2
     have:=h2 (u,j) (by rw [List.mem_zipIdx_iff_getElem?]; exact hj)
     simp only [Bool.or_eq_true,beq_iff_eq,Bool.not_eq_true'] at this
     exact this.resolve_left hne
   · rename_i τ l hm
     rw [Bool.and_eq_true] at h2
     refine ⟨b,τ,l,_,hb,hm,.inr ⟨rfl,by simpa using h2.1⟩,fun j u hj hne=>?_⟩
     have h2:=h2.2
     rw [List.all_eq_true] at h2
     have:=h2 (u,j) (by rw [List.mem_zipIdx_iff_getElem?]; exact hj)
     simp only [Bool.or_eq_true,beq_iff_eq,Bool.not_eq_true'] at this
     exact this.resolve_left hne
   · cases h2
 · cases h2
def MvId (mvs:List Nat) (args:List V) (b:Nat):Prop:=∃ i ∈ mvs,args[i]? = some (.arr b)
theorem killMv_at (args:List V) (c:Nat):∀ (mvs:List Nat) (m:Hp),(MvId mvs args c -> (killMv mvs args m).at c = none) /\ (¬ MvId mvs args c -> (killMv mvs args m).at c = m.at c)
 | [],m=>⟨fun ⟨i,hi,_⟩=>(nomatch hi),fun _=>rfl⟩
 | i :: r,m=>by
   have e:killMv (i :: r) args m = killMv r args (match args[i]? with | some (.arr b)=>(b,none) :: m | _=>m):=rfl
   rw [e]
   obtain ⟨h1,h2⟩:=killMv_at args c r (match args[i]? with | some (.arr b)=>(b,none) :: m | _=>m)
   constructor
   · rintro ⟨j,hj,hc⟩
     by_cases hr:MvId r args c
     · exact h1 hr
     · rw [h2 hr]
       rcases List.mem_cons.1 hj with rfl | hj
       · rw [hc]; simp [Hp.at_cons]
       · exact absurd ⟨j,hj,hc⟩ hr
   · intro hn
     rw [h2 (fun ⟨j,hj,hc⟩=>hn ⟨j,List.mem_cons_of_mem _ hj,hc⟩)]
     split
     · rename_i b hb
       rw [Hp.at_cons,if_neg]
       rintro rfl
       exact hn ⟨i,by simp,hb⟩
     · rfl
theorem frzBut_cs (K:Nat -> Bool) {c:Nat} {cs:List V}:∀ (l:List (V × Nat)) (m:Hp),m.at c = some (.cs cs) -> (l.foldl (fun m q=>if K q.2 = true then m else frz m q.1) m).at c = some (.cs cs)
 | [],m,h=>h
 | (v,i) :: r,m,h=>by
   simp only [List.foldl_cons]
   refine frzBut_cs K r _ ?_
   split
   · exact h
   · rw [frz_at,h]; split <;> rfl
theorem In.mono {X X':Nat -> Prop} {l:List Nat} (h:In X μ m w l) (hX:∀ b,X b -> X' b):In X' μ m w l :=
 ⟨fun b hb τ r q ad e1 e2 e3=>hX _ (h.1 b hb τ r q ad e1 e2 e3),fun b hb τ r q ad e1 e2 e3=>⟨hX _ (h.2 b hb τ r q ad e1 e2 e3).1,(h.2 b hb τ r q ad e1 e2 e3).2.mono hX (Zd3 _ _) (fun _ _ e=>e)⟩⟩
set_option maxHeartbeats 4000000 in
theorem call_ok (hE:EnvC P E) (hM:Mem E.G w0 Ob A B F μ m w) (hfr:Zgz μ base) {f:Nat} {tys:List Nat} {args:List V} {vs:Array Value} (hr:RL F B w μ args vs.toList)
  (hf:callK E f tys args base m (fun v m=>some (v,m)) = some (v,m')):Does P f vs w fun cv w'=>∃ F' μ',Step1 E.G w0 Ob A B F μ w base F' μ' m' w' /\ R F' B w' μ' v cv:=by
 unfold callK at hf
 split at hf
 case h_2=>cases hf
 rename_i c hc
 obtain ⟨avs,res,hmatch,hsat,hK⟩:=hE.ctr f c hc _ _ _ _ hf
 clear hf
 split at hK
 case isFalse=>cases hK
 rename_i hok
 obtain ⟨hap,hok,hmv⟩:=hok
 split at hK
 case h_2=>cases hK
 rename_i m2 hout
 simp only [Option.some.injEq,Prod.mk.injEq] at hK
 obtain ⟨rfl,rfl⟩:=hK
 obtain ⟨outs,houts⟩:∃ o,o = res.outs:=⟨_,rfl⟩
 obtain ⟨offs,hoffs⟩:∃ o,o = res.offs:=⟨_,rfl⟩
 obtain ⟨mvs,hmvs⟩:∃ o,o = res.mvs:=⟨_,rfl⟩
 rw [← hmvs] at hmatch hmv hout
 rw [← houts,← hoffs] at hap hout hmatch
 rw [← hoffs] at hmv
 rw [← hmvs]
 obtain ⟨m1,hm1⟩:∃ m1,m1 = (if res.hasSl = true then frzBut outs mvs args m else m):=⟨_,rfl⟩
 rw [← hm1] at hout
 have S1:∃ F1,Mem E.G w0 Ob A B F1 μ m1 w /\ Tr B F F1 μ μ w w /\ (res.hasSl = true -> ∀ j v,args[j]? = some v -> inPlace outs mvs j = false -> In F1 μ m w (arrs v)):=by
  by_cases hs:res.hasSl = true
  · rw [if_pos hs] at hm1
    obtain ⟨F1,k1,k2,k3⟩:=frzBut_ok (inPlace outs mvs) args.zipIdx hM
    exact ⟨F1,by rw [hm1]; exact k1,k2,fun _ j v hj hk=>k3 (v,j) (by rw [List.mem_zipIdx_iff_getElem?]; exact hj) hk⟩
  · rw [if_neg hs] at hm1
    exact ⟨F,by rw [hm1]; exact hM,Tr.refl _ _ _ _,fun e=>absurd e hs⟩
 obtain ⟨F1,M1,T1,hIn1⟩:=S1
 obtain ⟨ν,hd⟩:=M1.deep
 obtain ⟨ids,n1,_,n3,n4⟩:=outsH_ok outs [] m1 m2 hout
 have hment:∀ b ∈ ids,∃ i x,(i,x) ∈ outs /\ KindOk offs args i x b (m1.at b) /\ ∀ j u,args[j]? = some u -> j ≠ i -> ment m b 5 u = false:=fun b hb=>by
  obtain ⟨i,x,h1,h2,_⟩:=outAt_mem (o:=none) outs ids n3 b hb
  obtain ⟨b',v',h3,h4,h5⟩:=apart_spec hap h1
  obtain ⟨v'',h6,h7,_⟩:=h2.id
  rw [h6] at h3; cases h3
  rw [h7] at h4; cases h4
  exact ⟨i,x,h1,h2,h5⟩
 have keyK:∀ {i x},(i,x) ∈ outs -> inPlace outs mvs i = true:=fun {i x} h=>by
  unfold inPlace; rw [hasKey_iff.2 ⟨x,h⟩]; rfl
 have mvK:∀ {i},i ∈ mvs -> inPlace outs mvs i = true:=fun {i} h=>by
  unfold inPlace; simp [h]
 have hm1at:∀ b ∈ ids,m1.at b = m.at b:=fun b hb=>by
  rw [hm1]; split
  · obtain ⟨i,x,h1,h2,h5⟩:=hment b hb
    refine frzBut_at (inPlace outs mvs) b _ _ (fun q hq hk=>ment_arr (h5 q.2 q.1 (List.mem_zipIdx_iff_getElem?.1 hq) (fun e=>?_)))
    rw [e,keyK h1] at hk; cases hk
  · rfl
 have hm1mv:∀ {i b},i ∈ mvs -> args[i]? = some (.arr b) -> ∃ τ l x,m.at b = some x /\ MvBx τ l x /\ m1.at b = some x /\ ∀ j u,args[j]? = some u -> j ≠ i -> ment m b 5 u = false:=fun {i b} hi hb=>by
  obtain ⟨_,b',τ,l,x,k1,k2,kx,k3⟩:=mv_spec hmv hi
  rw [hb] at k1; cases k1
  refine ⟨τ,l,x,k2,kx,?_,k3⟩
  rw [← k2,hm1]; split
  · refine frzBut_at (inPlace outs mvs) b _ _ (fun q hq hk=>ment_arr (k3 q.2 q.1 (List.mem_zipIdx_iff_getElem?.1 hq) (fun e=>?_)))
    rw [e,mvK hi] at hk; cases hk
  · rfl
 have ioid:∀ j q,ioM offs outs mvs args μ j = some q -> ∃ b y,inPlace outs mvs j = true /\ (b ∈ ids ∨ MvId mvs args b) /\ m.at b = some y /\ m1.at b = some y /\ y.isFz = false /\ μ b = some (some q) /\ (∃ v,args[j]? = some v /\ ∀ m,ment m b 5 v = true) /\ ∀ j' u,args[j']? = some u -> j' ≠ j -> ment m b 5 u = false:=fun j q hq=>by
  have hq0:=hq
  unfold ioM at hq
  split at hq
  case isFalse=>cases hq
  rename_i hk
  by_cases hkey:hasKey outs j = true
  · obtain ⟨x,hx⟩:=hasKey_iff.1 hkey
    obtain ⟨b,hb,hkind⟩:=n3.mem outs ids j x hx
    obtain ⟨v',h1,h2,h3⟩:=hkind.id
    obtain ⟨y,hy,hyz⟩:=hkind.box
    obtain ⟨b',v'',h4,h5,h6⟩:=apart_spec hap hx
    rw [h1] at h4; cases h4
    rw [h2] at h5; cases h5
    rw [h1] at hq; simp only [Option.bind_some,h2] at hq
    refine ⟨b,y,hk,.inl hb,by rw [← hm1at b hb]; exact hy,hy,hyz,?_,⟨v',h1,h3⟩,h6⟩
    cases hμ:μ b with
    | none=>rw [hμ] at hq; cases hq
    | some o=>rw [hμ] at hq; simp at hq; rw [hq]
  · have hj:j ∈ mvs:=by
      unfold inPlace at hk
      simpa [hkey] using hk
    obtain ⟨ho,b,τ,l,_,k1,k2,_,k3⟩:=mv_spec hmv hj
    obtain ⟨τ',l',x',j1,jx,j2,j3⟩:=hm1mv hj k1
    rw [k1] at hq
    have:idAt offs j (.arr b) = some b:=by unfold idAt; rw [ho]; rfl
    simp only [Option.bind_some,this] at hq
    refine ⟨b,_,hk,.inr ⟨j,hj,k1⟩,j1,j2,jx.fz,?_,⟨_,k1,fun m=>Zfh m b 4⟩,j3⟩
    cases hμ:μ b with
    | none=>rw [hμ] at hq; cases hq
    | some o=>rw [hμ] at hq; simp at hq; rw [hq]
 have iok:∀ j x b,(j,x) ∈ outs -> KindOk offs args j x b (m1.at b) -> ∀ q,μ b = some (some q) -> ioM offs outs mvs args μ j = some q:=fun j x b hx hkind q hq=>by
  obtain ⟨v',h1,h2,_⟩:=hkind.id
  unfold ioM
  rw [if_pos (keyK hx),h1]; simp [h2,hq]
 have iokmv:∀ j b,j ∈ mvs -> args[j]? = some (.arr b) -> ∀ q,μ b = some (some q) -> ioM offs outs mvs args μ j = some q:=fun j b hj hb q hq=>by
  obtain ⟨ho,_⟩:=mv_spec hmv hj
  unfold ioM
  have:idAt offs j (.arr b) = some b:=by unfold idAt; rw [ho]; rfl
  rw [if_pos (mvK hj),hb]; simp [this,hq]
 obtain ⟨io,hio⟩:∃ io,io = ioM offs outs mvs args μ:=⟨_,rfl⟩
 rw [← hio] at ioid iok iokmv
 let nb:Nat -> Nat -> Prop:=fun j c=>j ∈ mvs /\ ∃ b,args[j]? = some (.arr b) /\ ν b c
 let X:Nat -> Prop:=fun b=>∃ j v,args[j]? = some v /\ inPlace outs mvs j = false /\ ∃ id ∈ arrs v,∃ τ r q ad,m.at id = some (.rows τ r) /\ μ id = some (some q) /\ q.a = some ad /\ b = ad.block
 let XD:Nat -> Prop:=fun b=>∃ j v,args[j]? = some v /\ inPlace outs mvs j = false /\ ∃ id ∈ arrs v,∃ τ r q,m.at id = some (.dp τ r) /\ μ id = some (some q) /\ ((∃ ad,q.a = some ad /\ b = ad.block) ∨ ν id b)
 let Y:Nat -> Prop:=fun b=>∃ j v,args[j]? = some v /\ inPlace outs mvs j = false /\ ∃ id ∈ ptrs v,∃ cs q ad,m.at id = some (.cs cs) /\ μ id = some (some q) /\ q.a = some ad /\ b = ad.block
 let A':Nat -> Prop:=fun b=>F1 b ∨ (res.hasSl ≠ true /\ (X b ∨ XD b))
 let B':Nat -> Prop:=fun b=>B b ∨ Y b
 have hF:∀ b,F b -> A' b:=fun b h=>.inl (T1.sub b h)
 have hB:∀ b,B b -> B' b:=fun b=>.inl
 have m1eq:res.hasSl ≠ true -> m1 = m:=fun hs=>by rw [hm1,if_neg hs]
 have m1cs:∀ {id cs},m.at id = some (.cs cs) -> m1.at id = some (.cs cs):=fun {id cs} h=>by
  rw [hm1]; split
  · exact frzBut_cs (inPlace outs mvs) args.zipIdx m h
  · exact h
 have mvB:∀ c,MVb mvs io nb c -> ∃ b τ l x,MvId mvs args b /\ m1.at b = some x /\ MvBx τ l x /\ ((∃ q ad,μ b = some (some q) /\ q.a = some ad /\ c = ad.block) ∨ ν b c):=by
  rintro c ⟨i,hi,h⟩
  obtain ⟨_,b,_,_,_,k1,_,_⟩:=mv_spec hmv hi
  obtain ⟨τ,l,x,j1,jx,j2,_⟩:=hm1mv hi k1
  refine ⟨b,τ,l,x,⟨i,hi,k1⟩,j2,jx,?_⟩
  rcases h with ⟨q,ad,h1,h2,h3⟩ | ⟨_,b',h1,h2⟩
  · obtain ⟨p,e1,e2⟩:=M1.box b _ j2
    rw [iokmv i b hi k1 p e1] at h1; cases h1
    exact .inl ⟨q,ad,e1,h2,h3⟩
  · rw [k1] at h1; cases h1
    exact .inr h2
 have ioB:∀ c,IOn io nb c -> ∃ b y,(b ∈ ids ∨ MvId mvs args b) /\ m.at b = some y /\ m1.at b = some y /\ y.isFz = false /\ ((∃ q ad,μ b = some (some q) /\ q.a = some ad /\ c = ad.block) ∨ ν b c) /\ ∀ j u,args[j]? = some u -> inPlace outs mvs j = false -> ment m b 5 u = false:=by
  rintro c (⟨j,q,ad,h1,h2,h3⟩ | ⟨j,hj,b,h1,h2⟩)
  · obtain ⟨b,y,k1,k2,k3,k4,k5,k6,k7,k8⟩:=ioid j q h1
    exact ⟨b,y,k2,k3,k4,k5,.inl ⟨q,ad,k6,h2,h3⟩,fun j' u hu hk=>k8 j' u hu (fun e=>by rw [e,k1] at hk; cases hk)⟩
  · obtain ⟨τ,l,x,j1,jx,j2,j3⟩:=hm1mv hj h1
    exact ⟨b,_,.inr ⟨j,hj,h1⟩,j1,j2,jx.fz,.inr h2,fun j' u hu hk=>j3 j' u hu (fun e=>by rw [e,mvK hj] at hk; cases hk)⟩
 have mvIO:∀ c,MVb mvs io nb c -> IOn io nb c:=by
  rintro c ⟨i,hi,⟨q,ad,h1,h2,h3⟩ | h⟩
  · exact .inl ⟨i,q,ad,h1,h2,h3⟩
  · exact .inr ⟨i,h⟩
 have hIOlt:∀ c,IOn io nb c -> ¬ F1 c /\ ¬ B c /\ c < w.heap.size /\ (w0.heap.size <= c ∨ Ob c):=fun c hc=>by
  obtain ⟨b,y,k2,k3,k4,k5,k6,_⟩:=ioB c hc
  rcases k6 with ⟨q,ad,e1,e2,rfl⟩ | k6
  · exact M1.own b y q ad k4 k5 e1 e2
  · exact hd.own b y c k4 k6
 have cl1:∀ b x q ad,m1.at b = some x -> x.isFz = false -> μ b = some (some q) -> q.a = some ad -> MVb mvs io nb ad.block -> MvId mvs args b:=fun b x q ad e1 e2 e3 e4 h=>by
  obtain ⟨b',τ,l,x',k1,k2,kx,k3⟩:=mvB _ h
  rcases k3 with ⟨q',ad',f1,f2,f3⟩ | k3
  · have:=M1.inj b b' x _ q q' ad ad' e1 k2 e2 kx.fz e3 f1 e4 f2 f3
    rw [this]; exact k1
  · exact absurd rfl (hd.apart b' _ _ b x q ad k2 k3 e1 e2 e3 e4)
 have cl2:∀ b x c,m1.at b = some x -> ν b c -> MVb mvs io nb c -> MvId mvs args b:=fun b x c e1 e2 h=>by
  obtain ⟨b',τ,l,x',k1,k2,kx,k3⟩:=mvB _ h
  rcases k3 with ⟨q',ad',f1,f2,f3⟩ | k3
  · exact absurd f3.symm (hd.apart b x c b' _ q' ad' e1 e2 k2 kx.fz f1 f2)
  · have:=hd.inj b b' x _ c e1 k2 e2 k3
    rw [this]; exact k1
 have cl3:∀ b x q ad,m1.at b = some x -> x.isFz = false -> μ b = some (some q) -> q.a = some ad -> IOn io nb ad.block -> b ∈ ids ∨ MvId mvs args b:=fun b x q ad e1 e2 e3 e4 h=>by
  obtain ⟨b',y,k1,_,k2,kz,k3,_⟩:=ioB _ h
  rcases k3 with ⟨q',ad',f1,f2,f3⟩ | k3
  · have:=M1.inj b b' x y q q' ad ad' e1 k2 e2 kz e3 f1 e4 f2 f3
    rw [this]; exact k1
  · exact absurd rfl (hd.apart b' _ _ b x q ad k2 k3 e1 e2 e3 e4)
 have cl4:∀ b x c,m1.at b = some x -> ν b c -> IOn io nb c -> b ∈ ids ∨ MvId mvs args b:=fun b x c e1 e2 h=>by
  obtain ⟨b',y,k1,_,k2,kz,k3,_⟩:=ioB _ h
  rcases k3 with ⟨q',ad',f1,f2,f3⟩ | k3
  · exact absurd f3.symm (hd.apart b x c b' _ q' ad' e1 e2 k2 kz f1 f2)
  · have:=hd.inj b b' x _ c e1 k2 e2 k3
    rw [this]; exact k1
 have A'lt:∀ b,A' b -> b < w.heap.size:=by
  rintro b (h | ⟨hs,⟨j,v,h1,h2,id,h3,τ,r,q,ad,h4,h5,h6,rfl⟩ | ⟨j,v,h1,h2,id,h3,τ,r,q,h4,h5,h6⟩⟩)
  · exact (M1.fz b h).1
  · exact (hM.own id _ q ad h4 rfl h5 h6).2.2.1
  · rcases h6 with ⟨ad,h6,rfl⟩ | h6
    · exact (hM.own id _ q ad h4 rfl h5 h6).2.2.1
    · exact (hd.own id _ b (by rw [m1eq hs]; exact h4) h6).2.2.1
 have B'lt:∀ b,B' b -> b < w.heap.size:=by
  rintro b (h | ⟨j,v,h1,h2,id,h3,cs,q,ad,h4,h5,h6,rfl⟩)
  · exact hM.block_lt h
  · exact (hM.own id _ q ad h4 rfl h5 h6).2.2.1
 have hIoOk:IoOk A' B' w io nb:=by
  constructor
  · intro c hc
    obtain ⟨b,y,k1,k2,k3,k4,k5,k6⟩:=ioB c hc
    obtain ⟨o1,o2,o3,o4⟩:=hIOlt c hc
    refine ⟨?_,?_,o3⟩
    · rintro (h | ⟨hs,⟨j',v',e1,e2,id',e3,τ,r,q',ad',e4,e5,e6,e7⟩ | ⟨j',v',e1,e2,id',e3,τ,r,q',e4,e5,e6⟩⟩)
      · exact o1 h
      · have e4':m1.at id' = some (.rows τ r):=by rw [m1eq hs]; exact e4
        rcases k5 with ⟨q,ad,f1,f2,f3⟩ | k5
        · have:=M1.inj b id' y _ q q' ad ad' k3 e4' k4 rfl f1 e5 f2 e6 (f3 ▸ e7)
          subst this
          exact ment_arr (k6 j' v' e1 e2) e3
        · exact hd.apart b y c id' _ q' ad' k3 k5 e4' rfl e5 e6 e7.symm
      · have e4':m1.at id' = some (.dp τ r):=by rw [m1eq hs]; exact e4
        have hbne:b ≠ id':=fun e=>ment_arr (k6 j' v' e1 e2) (e ▸ e3)
        rcases k5 with ⟨q,ad,f1,f2,f3⟩ | k5
        · rcases e6 with ⟨ad',e6,e7⟩ | e6
          · exact hbne (M1.inj b id' y _ q q' ad ad' k3 e4' k4 rfl f1 e5 f2 e6 (f3 ▸ e7))
          · exact hd.apart id' _ c b y q ad e4' e6 k3 k4 f1 f2 f3.symm
        · rcases e6 with ⟨ad',e6,e7⟩ | e6
          · exact hd.apart b y c id' _ q' ad' k3 k5 e4' rfl e5 e6 e7.symm
          · exact hbne (hd.inj b id' y _ c k3 e4' k5 e6)
    · rintro (h | ⟨j',v',e1,e2,id',e3,cs,q',ad',e4,e5,e6,e7⟩)
      · exact o2 h
      · have e4':=m1cs e4
        rcases k5 with ⟨q,ad,f1,f2,f3⟩ | k5
        · have:=M1.inj b id' y _ q q' ad ad' k3 e4' k4 rfl f1 e5 f2 e6 (f3 ▸ e7)
          subst this
          exact ment_ptr (k6 j' v' e1 e2) e3
        · exact hd.apart b y c id' _ q' ad' k3 k5 e4' rfl e5 e6 e7.symm
  · intro i j q q' ad ad' hi hj ha ha' hb
    obtain ⟨b,y,k1,k2,k3,k4,k5,k6,k7,k8⟩:=ioid i q hi
    obtain ⟨b',y',l1,l2,l3,l4,l5,l6,⟨v',l7,l9⟩,l8⟩:=ioid j q' hj
    have:=M1.inj b b' y y' q q' ad ad' k4 l4 k5 l5 k6 l6 ha ha' hb
    subst this
    by_cases hij:i = j
    · exact hij
    · have:=k8 j v' l7 (Ne.symm hij)
      rw [l9 m] at this; cases this
  · rintro i j c ⟨hi,b,h1,h2⟩ ⟨hj,b',h3,h4⟩
    obtain ⟨τ,l,_,j1,_,j2,j3⟩:=hm1mv hi h1
    obtain ⟨τ',l',_,j1',_,j2',_⟩:=hm1mv hj h3
    have:=hd.inj b b' _ _ c j2 j2' h2 h4
    subst this
    by_cases hij:i = j
    · exact hij
    · have:=j3 j _ h3 (Ne.symm hij)
      rw [Zfh m b 4] at this; cases this
  · rintro i j q ad h1 h2 ⟨hi,b,h3,h4⟩
    obtain ⟨τ,l,_,j1,_,j2,j3⟩:=hm1mv hi h3
    obtain ⟨b',y',l1,l2,l3,l4,l5,l6,_⟩:=ioid j q h1
    exact hd.apart b _ _ b' y' q ad j2 h4 l4 l5 l6 h2 rfl
 have hArg:ArgR A' B' w io nb 0 avs vs.toList:=by
  refine argR_ok hM hF hB args 0 tys avs vs.toList hmatch hr (fun j v hj=>?_)
  rw [Nat.zero_add]
  refine ⟨fun hk=>⟨?_,fun b hb cs q ad h1 h2 h3=>.inr ⟨j,v,hj,hk,b,hb,cs,q,ad,h1,h2,h3,rfl⟩⟩,fun hk=>?_,fun hk=>?_⟩
  · by_cases hs:res.hasSl = true
    · exact (hIn1 hs j v hj hk).mono (fun b h=>.inl h)
    · refine ⟨fun b hb τ r q ad h1 h2 h3=>.inr ⟨hs,.inl ⟨j,v,hj,hk,b,hb,τ,r,q,ad,h1,h2,h3,rfl⟩⟩,fun b hb τ r q ad h1 h2 h3=>⟨.inr ⟨hs,.inr ⟨j,v,hj,hk,b,hb,τ,r,q,h1,h2,.inl ⟨ad,h3,rfl⟩⟩⟩,?_⟩⟩
      have hn:Nest w q (ν b) (.dp τ r):=hd.nest b _ q (by rw [m1eq hs]; exact h1) h2
      exact (hn ad h3).rows (fun k hk'=>.inr ⟨hs,.inr ⟨j,v,hj,hk,b,hb,τ,r,q,h1,h2,.inr hk'⟩⟩)
  · obtain ⟨x,hx⟩:=hasKey_iff.1 hk
    obtain ⟨b,hb,hkind⟩:=n3.mem outs ids j x hx
    have hat:=hm1at b hb
    have hkind0:=hkind
    rcases hkind with ⟨e0,e1,cs,ds,e2,e3,e4⟩ | ⟨e0,e1,σ,l,l',e2,e3⟩ | ⟨off,cs,e0,e1,e5,e6,σ,l,l',e2,e3⟩
    · rw [hj] at e1; cases e1
      obtain ⟨q,k1,_⟩:=M1.box b _ e2
      exact .inl ⟨b,q,cs,rfl,by rw [← hat]; exact e2,k1,iok j x b hx hkind0 q k1⟩
    · rw [hj] at e1; cases e1
      obtain ⟨q,k1,_⟩:=M1.box b _ e2
      exact .inr (.inl ⟨b,q,σ,l,rfl,by rw [← hat]; exact e2,k1,iok j x b hx hkind0 q k1⟩)
    · rw [hj] at e1; cases e1
      obtain ⟨q,k1,_⟩:=M1.box b _ e2
      exact .inr (.inr ⟨off,cs,b,q,σ,l,e0,rfl,e5,e6,by rw [← hat]; exact e2,k1,iok j x b hx hkind0 q k1⟩)
  · obtain ⟨_,b,_,_,_,k1,_,_⟩:=mv_spec hmv hk
    obtain ⟨τ,l,x,j1,jx,j2,j3⟩:=hm1mv hk k1
    rw [hj] at k1; cases k1
    obtain ⟨q,e1,_⟩:=M1.box b _ j2
    refine ⟨b,q,τ,l,x,rfl,j1,jx,e1,iokmv j b hk hj q e1,?_⟩
    have e:nb j = ν b:=by
     funext c
     refine propext ⟨fun ⟨_,b',h1,h2⟩=>?_,fun h=>⟨hk,b,hj,h⟩⟩
     rw [hj] at h1; cases h1; exact h2
    rw [e]
    exact hd.nest b _ q j2 e1
 have hglob:∀ g cs,look E.G g = some cs -> R A' B' w noMu (.rc cs) (.pointer (some ⟨g,0,none⟩)):=fun g cs hg=>by
  have:=hM.glob.1 g cs hg
  simp only [R] at this ⊢
  obtain ⟨ad,vs,e1,e2,e3,e4,e5⟩:=this
  exact ⟨ad,vs,e1,e2,hB _ e3,Zhh hF (Zd3 _ _) (hE.glb g cs hg) e4,e5⟩
 refine (hsat w A' B' io nb vs A'lt B'lt ⟨hglob,hM.gex⟩ hIoOk hArg).mono ?_
 rintro cv w' ⟨Fr,μr,rr⟩
 obtain ⟨νr,d1,d2,d3⟩:=rr.deep
 have rfz:=rr.fz
 have rbs:=rr.bs
 rw [← hmvs] at rfz rbs d2
 rw [Res.okRes] at hok
 simp only [Bool.and_eq_true,decide_eq_true_eq] at hok
 obtain ⟨⟨⟨okv,okbs⟩,okouts⟩,oklen⟩:=hok
 have hsz:=rr.ext.size
 let F2:Nat -> Prop:=fun b=>F1 b ∨ (res.hasSl = true /\ Fr b /\ (w.heap.size <= b ∨ MVb mvs io nb b))
 let μ2:Mu:=fun id=>if base <= id /\ id < base + 64 then μr (id - base) else μ id
 have hμ2:∀ i o,μr i = some o -> μ2 (base + i) = some o:=fun i o e=>by
  have hi:i < res.bs.length:=by
   rcases Nat.lt_or_ge i res.bs.length with h | h
   · exact h
   · rw [rr.dom i h] at e; cases e
  show (if _ then _ else _) = _
  rw [if_pos ⟨by omega,by omega⟩,Nat.add_sub_cancel_left]; exact e
 have hF2:res.hasSl = true -> ∀ b,Fr b -> F2 b:=fun hs b hb=>by
  rcases rfz b hb with (h | ⟨hs',_⟩) | h | h
  · exact .inl h
  · exact absurd hs hs'
  · exact .inr ⟨hs,hb,.inl h.1⟩
  · exact .inr ⟨hs,hb,.inr h⟩
 have C:Conv res.hasSl Fr F2 w':=conv_mk hF2
 have hslv:Go.E.hasSl res.v = true -> res.hasSl = true:=fun e=>by unfold Res.hasSl; simp [hasSlE_of e]
 have hslb:∀ x ∈ res.bs,hasSlB x = true -> res.hasSl = true:=fun x hx e=>by
  unfold Res.hasSl; rw [Bool.or_eq_true,Bool.or_eq_true,List.any_eq_true]; exact .inl (.inr ⟨x,hx,e⟩)
 have hslo:∀ p ∈ outs,hasSlB p.2 = true -> res.hasSl = true:=fun x hx e=>by
  unfold Res.hasSl; rw [Bool.or_eq_true,List.any_eq_true]; exact .inr ⟨x,houts ▸ hx,e⟩
 have same:∀ b,b < w.heap.size -> ¬ IOn io nb b -> Same w w' b:=fun b hb hn=>rr.ext.same hb hn
 have keep:∀ b,b < w.heap.size -> ¬ IOn io nb b -> ∀ off v,w.cell? ⟨b,off,none⟩ = some v -> w'.cell? ⟨b,off,none⟩ = some v:=fun b hb hn off v e=>by
  rw [(same b hb hn).cell off]; exact e
 have T2:Tr B F1 F2 μ μ2 w w':=by
  refine ⟨fun b hb=>.inl hb,fun b off v hb e=>keep b (M1.fz b hb).1 (fun h=>(hIOlt b h).1 hb) off v e,fun b off v hb e=>keep b (M1.block_lt hb) (fun h=>(hIOlt b h).2.1 hb) off v e,fun b o e=>⟨o,?_,.inr rfl⟩⟩
  show (if _ then _ else _) = _
  rw [if_neg,e]
  intro hb
  have:=hfr (b - base) (by omega)
  rw [Nat.add_sub_cancel' hb.1] at this
  rw [this] at e; cases e
 let mF:=Zip base 0 res.bs (killMv mvs args m2)
 have alive:∀ b x,mF.at b = some x ->
   (∃ i,i < res.bs.length /\ b = base + i /\ res.bs[i]? = some x) ∨
   (¬ (base <= b /\ b < base + 64) /\ b ∈ ids /\ ¬ MvId mvs args b /\ ∃ i,(i,x) ∈ outs /\ KindOk offs args i x b (m1.at b)) ∨
   (¬ (base <= b /\ b < base + 64) /\ b ∉ ids /\ ¬ MvId mvs args b /\ m1.at b = some x):=fun b x hx=>by
  rw [addBoxes_at] at hx
  split at hx
  · rename_i hb
    exact .inl ⟨b - base,by omega,by omega,by simpa using hx⟩
  · rename_i hb
    by_cases hkm:MvId mvs args b
    · rw [(killMv_at args b mvs m2).1 hkm] at hx; cases hx
    rw [(killMv_at args b mvs m2).2 hkm,n4] at hx
    have nr:∀ y,m1.at b = some y -> ¬ (base <= b /\ b < base + 64):=fun y hy hb=>by
     obtain ⟨q,e,_⟩:=M1.box b y hy
     have:=hfr (b - base) (by omega)
     rw [Nat.add_sub_cancel' hb.1,e] at this; cases this
    by_cases hi:b ∈ ids
    · obtain ⟨i,x',h1,h2,h3⟩:=outAt_mem (o:=m1.at b) outs ids n3 b hi
      rw [h3] at hx; cases hx
      obtain ⟨y,hy,_⟩:=h2.box
      exact .inr (.inl ⟨nr y hy,hi,hkm,i,h1,h2⟩)
    · rw [outAt_not outs ids hi] at hx
      exact .inr (.inr ⟨nr x hx,hi,hkm,hx⟩)
 have μ2old:∀ b,¬ (base <= b /\ b < base + 64) -> μ2 b = μ b:=fun b hb=>if_neg hb
 have μ2new:∀ i,i < res.bs.length -> μ2 (base + i) = μr i:=fun i hi=>by
  show (if _ then _ else _) = _
  rw [if_pos ⟨by omega,by omega⟩,Nat.add_sub_cancel_left]
 have old:∀ b x,¬ (base <= b /\ b < base + 64) -> mF.at b = some x -> x.isFz = false -> ¬ MvId mvs args b /\ ∃ y,m1.at b = some y /\ y.isFz = false:=fun b x hb hx hz=>by
  rcases alive b x hx with ⟨i,h1,rfl,h2⟩ | ⟨_,_,hk,i,h1,h2⟩ | ⟨_,_,hk,h⟩
  · exact absurd ⟨by omega,by omega⟩ hb
  · exact ⟨hk,h2.box⟩
  · exact ⟨hk,x,h,hz⟩
 have range:∀ b x,mF.at b = some x -> (∃ i,i < res.bs.length /\ b = base + i /\ res.bs[i]? = some x) ∨ ¬ (base <= b /\ b < base + 64):=fun b x hx=>by
  rcases alive b x hx with ⟨i,h1,h2,h3⟩ | ⟨h,_⟩ | ⟨h,_⟩
  · exact .inl ⟨i,h1,h2,h3⟩
  · exact .inr h
  · exact .inr h
 have newOwn:∀ i q ad,i < res.bs.length -> μr i = some (some q) -> q.a = some ad -> ¬ Fr ad.block /\ (w.heap.size <= ad.block ∨ MVb mvs io nb ad.block) /\ ad.block < w'.heap.size:=fun i q ad hi hq ha=>by
  obtain ⟨q',e1,_,e2⟩:=rbs i res.bs[i] (List.getElem?_eq_getElem hi)
  rw [hq] at e1; cases e1
  exact e2 ad ha
 have oldNew:∀ b x q ad,¬ (base <= b /\ b < base + 64) -> mF.at b = some x -> x.isFz = false -> μ b = some (some q) -> q.a = some ad -> ad.block < w.heap.size /\ ¬ MVb mvs io nb ad.block:=fun b x q ad hb hx hz hq ha=>by
  obtain ⟨hk,y,hy,hyz⟩:=old b x hb hx hz
  exact ⟨(M1.own b y q ad hy hyz hq ha).2.2.1,fun h=>hk (cl1 b y q ad hy hyz hq ha h)⟩
 let ν2:Nat -> Nat -> Prop:=fun b c=>(base <= b /\ b < base + res.bs.length /\ νr (b - base) c) ∨ (¬ (base <= b /\ b < base + 64) /\ b ∉ ids /\ ν b c)
 have ν2new:∀ i c,i < res.bs.length -> (ν2 (base + i) c ↔ νr i c):=fun i c hi=>by
  refine ⟨fun h=>?_,fun h=>.inl ⟨by omega,by omega,by rw [Nat.add_sub_cancel_left]; exact h⟩⟩
  rcases h with ⟨_,_,h⟩ | ⟨h,_⟩
  · rwa [Nat.add_sub_cancel_left] at h
  · exact absurd ⟨by omega,by omega⟩ h
 have ν2old:∀ b x c,¬ (base <= b /\ b < base + 64) -> mF.at b = some x -> ν2 b c -> b ∉ ids /\ ¬ MvId mvs args b /\ m1.at b = some x /\ ν b c:=fun b x c hb hx hc=>by
  rcases hc with ⟨h1,h2,_⟩ | ⟨_,h1,h2⟩
  · exact absurd ⟨h1,by omega⟩ hb
  · rcases alive b x hx with ⟨i,k1,rfl,k2⟩ | ⟨_,k,_⟩ | ⟨_,k1,k2,k3⟩
    · exact absurd ⟨by omega,by omega⟩ hb
    · exact absurd k h1
    · exact ⟨k1,k2,k3,h2⟩
 refine ⟨F2,μ2,⟨⟨?_,?_,?_,?_,?_,M1.bz,⟨fun g cs hg=>T2.R (M1.glob.1 g cs hg),M1.glob.2⟩,ν2,⟨?_,?_,?_,?_⟩⟩,T1.trans T2,fun id hid hn=>by rw [μ2old id hid]; exact hn⟩,conv_V C hμ2 okv hslv rr.val⟩
 ·
  refine ⟨rr.ext.os.trans M1.ext.os,rr.ext.tape.trans M1.ext.tape,rr.ext.output.trans M1.ext.output,Nat.le_trans M1.ext.size hsz,fun k hk hio'=>?_,fun s=>Nat.le_trans (M1.ext.drawn s) (rr.ext.drawn s)⟩
  rw [rr.ext.block k (Nat.lt_of_lt_of_le hk M1.ext.size) (fun h=>?_),M1.ext.block k hk hio']
  rcases (hIOlt k h).2.2.2 with h | h
  · omega
  · exact hio' h
 ·
  intro b x hx
  rcases alive b x hx with ⟨i,h1,rfl,h2⟩ | ⟨h0,hid,hk,i,h1,h2⟩ | ⟨h0,hid,hk,h⟩
  · obtain ⟨q,e1,e2,_⟩:=rbs i x h2
    have hmem:=List.mem_of_getElem? h2
    exact ⟨q,by rw [μ2new i h1]; exact e1,conv_box C (by rw [List.all_eq_true] at okbs; exact okbs x hmem) (hslb x hmem) e2⟩
  · obtain ⟨y,hy,hyz⟩:=h2.box
    obtain ⟨q,e1,_⟩:=M1.box b y hy
    obtain ⟨q',e2,e3⟩:=rr.outs i x (houts ▸ h1)
    rw [iok i x b h1 h2 q e1] at e2; cases e2
    refine ⟨q,by rw [μ2old b h0]; exact e1,conv_box C ?_ (hslo (i,x) h1) e3⟩
    rw [List.all_eq_true] at okouts
    exact okouts (i,x) (houts ▸ h1)
  · obtain ⟨q,e1,e2⟩:=M1.box b x h
    refine ⟨q,by rw [μ2old b h0]; exact e1,e2.mono T2 (fun ad hz ha=>?_)⟩
    refine same _ (M1.own b x q ad h hz e1 ha).2.2.1 (fun hio'=>?_)
    rcases cl3 b x q ad h hz e1 ha hio' with h | h
    · exact hid h
    · exact hk h
 ·
  intro b x q ad hx hz hq ha
  rcases range b x hx with ⟨i,hi,rfl,_⟩ | hb
  · rw [μ2new i hi] at hq
    obtain ⟨k1,k2,k3⟩:=newOwn i q ad hi hq ha
    have:=M1.ext.size
    rcases k2 with k2 | k2
    · refine ⟨?_,fun h=>?_,k3,.inl (by omega)⟩
      · rintro (h | ⟨_,h,_⟩)
        · have:=(M1.fz _ h).1; omega
        · exact k1 h
      · have:=M1.block_lt h; omega
    · obtain ⟨j1,j2,j3,j4⟩:=hIOlt _ (mvIO _ k2)
      refine ⟨?_,j2,k3,j4⟩
      rintro (h | ⟨_,h,_⟩)
      · exact j1 h
      · exact k1 h
  · rw [μ2old b hb] at hq
    obtain ⟨o1,o2⟩:=oldNew b x q ad hb hx hz hq ha
    obtain ⟨_,y,hy,hyz⟩:=old b x hb hx hz
    obtain ⟨k1,k2,k3,k4⟩:=M1.own b y q ad hy hyz hq ha
    refine ⟨?_,k2,by omega,k4⟩
    rintro (h | ⟨_,_,h | h⟩)
    · exact k1 h
    · omega
    · exact o2 h
 ·
  intro b b' x x' q q' ad ad' hx hx' hz hz' hq hq' ha ha' he
  rcases range b x hx with ⟨i,hi,rfl,_⟩ | hb <;> rcases range b' x' hx' with ⟨j,hj,rfl,_⟩ | hb'
  · rw [μ2new i hi] at hq; rw [μ2new j hj] at hq'
    rw [rr.bsInj i j q q' ad ad' hi hj hq hq' ha ha' he]
  · rw [μ2new i hi] at hq; rw [μ2old b' hb'] at hq'
    obtain ⟨o1,o2⟩:=oldNew b' x' q' ad' hb' hx' hz' hq' ha'
    rcases (newOwn i q ad hi hq ha).2.1 with h | h
    · omega
    · rw [he] at h; exact absurd h o2
  · rw [μ2old b hb] at hq; rw [μ2new j hj] at hq'
    obtain ⟨o1,o2⟩:=oldNew b x q ad hb hx hz hq ha
    rcases (newOwn j q' ad' hj hq' ha').2.1 with h | h
    · omega
    · rw [← he] at h; exact absurd h o2
  · rw [μ2old b hb] at hq; rw [μ2old b' hb'] at hq'
    obtain ⟨_,y,hy,hyz⟩:=old b x hb hx hz
    obtain ⟨_,y',hy',hyz'⟩:=old b' x' hb' hx' hz'
    exact M1.inj b b' y y' q q' ad ad' hy hy' hyz hyz' hq hq' ha ha' he
 ·
  rintro b (h | ⟨_,h,hs | hs⟩)
  · have:=M1.fz b h
    exact ⟨by omega,this.2⟩
  · have:=M1.ext.size
    rcases rfz b h with h | h | h
    · have:=A'lt b h; omega
    · exact ⟨h.2,.inr (.inl (by omega))⟩
    · have:=(hIOlt _ (mvIO _ h)).2.2.1; omega
  · obtain ⟨_,_,j3,j4⟩:=hIOlt _ (mvIO _ hs)
    exact ⟨by omega,.inr j4⟩
 ·
  intro b x q hx hq
  rcases alive b x hx with ⟨i,h1,rfl,h2⟩ | ⟨h0,hid,hk,i,h1,h2⟩ | ⟨h0,hid,hk,h⟩
  · rw [μ2new i h1] at hq
    have e:ν2 (base + i) = νr i:=by funext c; exact propext (ν2new i c h1)
    rw [e]; exact d1 i x q h2 hq
  · refine Ze4 ?_ _ _ _
    rcases h2 with ⟨_,_,cs,ds,_,rfl,_⟩ | ⟨_,_,σ,l,l',_,rfl⟩ | ⟨_,_,_,_,_,_,σ,l,l',_,rfl⟩ <;> rfl
  · rw [μ2old b h0] at hq
    have e:ν2 b = ν b:=by
     funext c
     refine propext ⟨fun h=>?_,fun h=>.inr ⟨h0,hid,h⟩⟩
     rcases h with ⟨k1,k2,_⟩ | ⟨_,_,k⟩
     · exact absurd ⟨k1,by omega⟩ h0
     · exact k
    rw [e]
    by_cases hz:x.isFz = true
    · exact Ze4 (by cases x <;> first | rfl | cases hz) _ _ _
    refine (hd.nest b x q h hq).frame (fun c hc=>?_) (fun ad ha=>?_)
    · refine same c (hd.own b x c h hc).2.2.1 (fun hio'=>?_)
      rcases cl4 b x c h hc hio' with h | h
      · exact hid h
      · exact hk h
    · refine same _ (M1.own b x q ad h (by simpa using hz) hq ha).2.2.1 (fun hio'=>?_)
      rcases cl3 b x q ad h (by simpa using hz) hq ha hio' with h | h
      · exact hid h
      · exact hk h
 · intro b x c hx hc
   rcases range b x hx with ⟨i,hi,rfl,_⟩ | hb
   · obtain ⟨k1,k2,k3,_⟩:=d2 i c hi ((ν2new i c hi).1 hc)
     have:=M1.ext.size
     rcases k2 with k2 | k2
     · refine ⟨?_,fun h=>?_,k3,.inl (by omega)⟩
       · rintro (h | ⟨_,h,_⟩)
         · have:=(M1.fz _ h).1; omega
         · exact k1 h
       · have:=M1.block_lt h; omega
     · obtain ⟨j1,j2,j3,j4⟩:=hIOlt _ (mvIO _ k2)
       refine ⟨?_,j2,k3,j4⟩
       rintro (h | ⟨_,h,_⟩)
       · exact j1 h
       · exact k1 h
   · obtain ⟨h1,h2,h3,h4⟩:=ν2old b x c hb hx hc
     obtain ⟨k1,k2,k3,k4⟩:=hd.own b x c h3 h4
     refine ⟨?_,k2,by omega,k4⟩
     rintro (h | ⟨_,_,h | h⟩)
     · exact k1 h
     · omega
     · exact h2 (cl2 b x c h3 h4 h)
 · intro b x c b' x' q ad hx hc hx' hz' hq ha
   rcases range b x hx with ⟨i,hi,rfl,_⟩ | hb <;> rcases range b' x' hx' with ⟨j,hj,rfl,_⟩ | hb'
   · rw [μ2new j hj] at hq
     exact (d2 i c hi ((ν2new i c hi).1 hc)).2.2.2 j q ad hq ha
   · rw [μ2old b' hb'] at hq
     obtain ⟨o1,o2⟩:=oldNew b' x' q ad hb' hx' hz' hq ha
     intro e
     rcases (d2 i c hi ((ν2new i c hi).1 hc)).2.1 with h | h
     · omega
     · rw [← e] at h; exact o2 h
   · rw [μ2new j hj] at hq
     obtain ⟨h1,h2,h3,h4⟩:=ν2old b x c hb hx hc
     intro e
     rcases (newOwn j q ad hj hq ha).2.1 with h | h
     · have:=(hd.own b x c h3 h4).2.2.1; omega
     · rw [e] at h; exact h2 (cl2 b x c h3 h4 h)
   · rw [μ2old b' hb'] at hq
     obtain ⟨h1,h2,h3,h4⟩:=ν2old b x c hb hx hc
     obtain ⟨_,y,hy,hyz⟩:=old b' x' hb' hx' hz'
     exact hd.apart b x c b' y q ad h3 h4 hy hyz hq ha
 · intro b b' x x' c hx hx' hc hc'
   rcases range b x hx with ⟨i,hi,rfl,_⟩ | hb <;> rcases range b' x' hx' with ⟨j,hj,rfl,_⟩ | hb'
   · rw [d3 i j c hi hj ((ν2new i c hi).1 hc) ((ν2new j c hj).1 hc')]
   · obtain ⟨h1,h2,h3,h4⟩:=ν2old b' x' c hb' hx' hc'
     rcases (d2 i c hi ((ν2new i c hi).1 hc)).2.1 with h | h
     · have:=(hd.own b' x' c h3 h4).2.2.1; omega
     · exact absurd (cl2 b' x' c h3 h4 h) h2
   · obtain ⟨h1,h2,h3,h4⟩:=ν2old b x c hb hx hc
     rcases (d2 j c hj ((ν2new j c hj).1 hc')).2.1 with h | h
     · have:=(hd.own b x c h3 h4).2.2.1; omega
     · exact absurd (cl2 b x c h3 h4 h) h2
   · obtain ⟨h1,h2,h3,h4⟩:=ν2old b x c hb hx hc
     obtain ⟨k1,k2,k3,k4⟩:=ν2old b' x' c hb' hx' hc'
     exact hd.inj b b' x x' c h3 k3 h4 k4
end
end Go.E

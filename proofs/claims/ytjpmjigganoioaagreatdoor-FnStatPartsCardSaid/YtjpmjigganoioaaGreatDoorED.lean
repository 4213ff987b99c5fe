/- A part of the proof: ED. -/
import Derived.Test.YtjpmjigganoioaaGreatDoorEC
import Derived.Laws.Externs
import Derived.Lib.Bytealg
import Derived.IntWalk
import Derived.ChangeArms
import Derived.WideShapes
import Derived.Below
import Derived.LaidMore
import Derived.Shelf.Strconv.AtoiAll
import Derived.Shelf.Strconv.Itoa3
import Derived.Shelf.SlSortCmp.WholeK
import Derived.Shelf.SlSortCmp.NoneTotal
import Derived.Stop.LaidErr
import Derived.Lib.LaidTab
set_option linter.unusedVariables false
noncomputable section
namespace Go.E
open Go Go.RowKit
def Zhx (An:Ann) (N:Nat):Code -> Bool
 | .region id ops d=>ops.all (dstOk N) && (match d with
   | true=>(match look An.fk id with
     | some p=>Zhf ops p.1 ops.size false (Array.replicate ops.size false)
     | none=>match look An.sc id with
       | some ord=>schedOk ops ord
       | none=>true)
   | false=>true)
 | .seq a b=>Zhx An N a && Zhx An N b
 | .cond _ a b=>Zhx An N a && Zhx An N b
 | .block _ a=>Zhx An N a
 | .loop a=>Zhx An N a
 | _=>true
def exOf:Ex -> Exit
 | .normal=>.normal
 | .exit id=>.exit id
 | .ret=>.ret
def Post (E:Env) (w0:World) (Ob A B:Nat -> Prop) (N:Nat) (μ0:Mu) {ρ:Type} (κ:Kt ρ) (r:ρ) (e:Exit) (a:Act) (w:World):Prop :=
 ∃ x s,e = exOf x /\ κ x s = some r /\ Rel E w0 Ob A B N μ0 s.n s a w
section
variable {P:Program} {E:Env} {An:Ann} {w0:World} {Ob A B:Nat -> Prop} {N:Nat} {μ0:Mu} {ρ:Type}
theorem lim_some {f:Nat -> Option ρ} {r:ρ} (h:lim f = some r):∃ k,f k = some r:=by
 unfold lim at h
 split at h
 · rename_i hx
   simp only [Option.some.injEq] at h
   exact h ▸ Classical.choose_spec hx
 · cases h
theorem least {p:Nat -> Prop} (h:∃ k,p k):∃ k,p k /\ ∀ j,p j -> k <= j:=by
 obtain ⟨k,hk⟩:=h
 induction k using Nat.strongRecOn with
 | _ k ih =>
   by_cases hj:∃ j,j < k /\ p j
   · obtain ⟨j,h1,h2⟩:=hj; exact ih j h1 h2
   · exact ⟨k,hk,fun j hpj=>Nat.le_of_not_lt fun h=>hj ⟨j,h,hpj⟩⟩
theorem Rel.cond (hE:EnvC P E) {s:St} {a:Act} {w:World} (h:Rel E w0 Ob A B N μ0 s.n s a w) {c:Operand} {t:Bool} (hc:opnd E s c = .val .bool t):a.eval c = .bool t:=by
 obtain ⟨F,μ,h⟩:=h
 have:=(h.pre hE).ev c
 rw [hc] at this
 exact R_bool this
theorem Rel.eqv {s s':St} {b:Nat} {a:Act} {w:World} (h:Rel E w0 Ob A B N μ0 b s a w) (e:Eqv s s'):Rel E w0 Ob A B N μ0 b s' a w:=by
 obtain ⟨F,μ,h⟩:=h
 exact ⟨F,μ,h.eqv e⟩
theorem Rel.frzS {s:St} {a:Act} {w:World} (h:Rel E w0 Ob A B N μ0 s.n s a w) (ts:List Nat):Rel E w0 Ob A B N μ0 (Go.E.frzS ts s).n (Go.E.frzS ts s) a w:=by
 have:∀ (ts:List Nat) (m:Hp),Rel E w0 Ob A B N μ0 s.n { s with m:=m } a w -> Rel E w0 Ob A B N μ0 s.n { s with m:=ts.foldl (fun m t=>frz m (s.get t)) m } a w:=by
  intro ts
  induction ts with
  | nil=>intro m h; exact h
  | cons t ts ih =>
    intro m h
    refine ih _ ?_
    obtain ⟨F,μ,h⟩:=h
    obtain ⟨F',h',tr⟩:=h.mem.frz (s.get t)
    exact ⟨F',μ,h',fun u=>tr.R (h.tmps u),h.size,h.defers,h.free,h.keep⟩
 exact this ts s.m h
theorem Zkj {α R:Type} {l:List α} {d:Option R} {f:α -> List α -> Option R} (h:l.length = 0):pickK l d f = d:=by unfold pickK; rw [if_pos h]
theorem pickK_some {α R:Type} {l:List α} {d:Option R} {f:α -> List α -> Option R} {r:R} (h:pickK l d f = some r) (hl:l.length ≠ 0) (j:Nat) (hj:j < l.length):f l[j] (l.eraseIdx j) = some r:=by
 unfold pickK at h
 rw [if_neg hl] at h
 split at h
 · rename_i hx
   simp only [Option.some.injEq] at h
   exact h ▸ Classical.choose_spec hx j hj
 · cases h
theorem pickK_mk {α R:Type} {l:List α} {d:Option R} {f:α -> List α -> Option R} {r:R} (h0:l.length = 0 -> d = some r) (h:∀ (j:Nat) (hj:j < l.length),f l[j] (l.eraseIdx j) = some r):pickK l d f = some r:=by
 unfold pickK
 split
 · rename_i hl; exact h0 hl
 · rename_i hl
   have hx:∃ r,∀ (j:Nat) (hj:j < l.length),f l[j] (l.eraseIdx j) = some r:=⟨r,h⟩
   rw [dif_pos hx]
   have h1:=Classical.choose_spec hx 0 (by omega)
   rw [h 0 (by omega)] at h1
   exact h1.symm
theorem nextOf_some {l:List Oper} {x:Operand} {ta tc:Nat} (h:nextOf l = some (x,ta,tc)):∃ o p,l = [o,p] /\ o.op = .next x false /\ p.op = .extract (.tmp ta) 0 /\ o.guard = none /\ p.guard = none /\ o.dst = some ta /\ p.dst = some tc:=by
 unfold nextOf at h
 split at h
 · rename_i o p
   split at h
   · rename_i x' str a' e1 e2 e3 e4 e5 e6
     split at h
     · rename_i hc
       obtain ⟨rfl,rfl⟩:=hc
       cases h
       exact ⟨o,p,rfl,by assumption,by assumption,by assumption,by assumption,by assumption,by assumption⟩
     · cases h
   · cases h
 · cases h
theorem sound_next (hE:EnvC P E) {ops:Array Oper} (hN:ops.all (dstOk N) = true) {id:Nat} {x:Operand} {ta tc:Nat} (hn:nextOf ops.toList = some (x,ta,tc)) {K:St -> Option ρ} {r:ρ} {Q:Exit -> Act -> World -> Prop} {s:St} {a:Act} {w:World}
  (h:Rel E w0 Ob A B N μ0 s.n s a w) (hr:nextK E x ta tc s K = some r) (hQ:∀ s' a' w',K s' = some r -> Rel E w0 Ob A B N μ0 s'.n s' a' w' -> Q .normal a' w'):(Code.region id ops false).wp P Q a w:=by
 obtain ⟨o,p,hl,eo,ep,go,gp,do',dp⟩:=nextOf_some hn
 have hops:ops = #[o,p]:=Zfp hl
 subst hops
 have hto:ta < N:=dst_lt (Array.all_eq_true_iff_forall_mem.1 hN o (by simp)) ta do'
 have htp:tc < N:=dst_lt (Array.all_eq_true_iff_forall_mem.1 hN p (by simp)) tc dp
 obtain ⟨F,μ,h⟩:=h
 unfold nextK at hr
 split at hr
 rotate_left
 · cases hr
 rename_i b hx
 split at hr
 rotate_left
 · cases hr
 rename_i κ τ l hb
 obtain ⟨q,hq,ad,ha,hsp⟩:=h.mem.box b _ hb
 have hxv:=it_ad (h.pre hE) hx hq
 have fin:∀ (t:Bool) (rest:List Value) (w':World) (m':Hp),(Instr.next (.pointer (some ⟨q.len,0,none⟩)) false o.type).run P w = .ok (.tuple (Value.bool t :: rest).toArray) w' ->
   Rl E w0 Ob A B N μ0 s.n F μ { s with m:=m' } a w' -> K { ((s.put (some ta) .undef).put (some tc) (.val .bool t)) with m:=m',n:=s.n + 2 * Zed } = some r -> (Code.region id #[o,p] false).wp P Q a w:=fun t rest w' m' hrun hrl hK=>by
  refine wp_region ?_
  have h0:(#[o,p]:Array Oper)[0]? = some o:=rfl
  have h1:(#[o,p]:Array Oper)[1]? = some p:=rfl
  show wpOps P #[o,p] Q [0,1] a w
  simp only [wpOps,h0,h1]
  rw [if_pos (by simp [Region.wanted,go])]
  refine .inl ?_
  have ex:(execOp a.eval o).run P w = .ok (.value (.tuple (Value.bool t :: rest).toArray)) w':=by
   unfold execOp; rw [eo]
   simp only [hxv,Sem.run_bind,hrun,Result.andThen_ok,Sem.run_pure]
  unfold Oper.wp
  rw [ex]
  show (if _ then _ else _)
  rw [if_pos (by simp [Region.wanted,gp])]
  refine .inl ?_
  have k1:=hrl.put (v:=.undef) (d:=o.dst) (fun u hu=>by rw [do'] at hu; cases hu; exact hto) (cv:=.tuple (Value.bool t :: rest).toArray) (by simp only [R])
  have ev:(a.put o.dst (.tuple (Value.bool t :: rest).toArray)).eval (.tmp ta) = .tuple (Value.bool t :: rest).toArray:=by
   show (a.put o.dst (.tuple (Value.bool t :: rest).toArray)).tmps.getD ta undef = _
   rw [getD_put h.size (fun u hu=>by rw [do'] at hu; cases hu; exact hto),if_pos do']
  have ex2:(execOp (a.put o.dst (.tuple (Value.bool t :: rest).toArray)).eval p).run P w' = .ok (.value (.bool t)) w':=by
   unfold execOp; rw [ep]
   simp [ev,Instr.extract]
  rw [ex2]
  have k2:=k1.put (v:=.val .bool t) (d:=p.dst) (fun u hu=>by rw [dp] at hu; cases hu; exact htp) (cv:=.bool t) (Zfc t)
  rw [do',dp] at k2
  refine hQ _ _ _ hK ⟨F,μ,?_⟩
  have k3:=k2.weak (b:=s.n + 2 * Zed) (by omega)
  rw [do',dp]
  exact ⟨k3.mem,k3.tmps,k3.size,k3.defers,k3.free,k3.keep⟩
 rcases h.mem.next (P:=P) hb hq o.type with ⟨h1,h2⟩ | ⟨j,hj,k,v,w',h1,h2,h3⟩
 · rw [Zkj (by rw [h1]; rfl)] at hr
   exact fin false [] w s.m h2 h hr
 · have hr:=pickK_some hr (by omega) j hj
   exact fin true [k,v] w' _ h1 ⟨h2,fun t=>h3.R (h.tmps t),h.size,h.defers,h.free,h.keep⟩ hr
theorem run_sound (hE:EnvC P E) (hmix:P.follows .mixedOrders = true) (hkp:∀ i o,μ0 i = some o -> i ∈ An.kp):∀ (c:Code),Zhx An N c = true -> ∀ {ρ:Type} (κ:Kt ρ) (r:ρ) (s:St) (a:Act) (w:World),Rel E w0 Ob A B N μ0 s.n s a w ->
  run E An c s κ = some r -> c.wp P (Post E w0 Ob A B N μ0 κ r) a w:=by
 intro c
 induction c with
 | skip=>intro _ ρ κ r s a w h hr; simp only [run] at hr; exact wp_skip ⟨.normal,s,rfl,hr,h⟩
 | exit id=>intro _ ρ κ r s a w h hr; simp only [run] at hr; exact wp_exit ⟨.exit id,s,rfl,hr,h⟩
 | ret=>intro _ ρ κ r s a w h hr; simp only [run] at hr; exact wp_ret ⟨.ret,s,rfl,hr,h⟩
 | region id ops d =>
   intro hk ρ κ r s a w h hr
   simp only [Zhx,Bool.and_eq_true] at hk
   cases d with
   | false =>
     simp only [run] at hr
     split at hr
     · rename_i x ta tc hn
       exact sound_next hE hk.1 hn h hr (fun s' a' w' h1 h2=>⟨.normal,s',rfl,h1,h2⟩)
     refine wp_region (sound_ops hE hk.1 (K:=κ .normal) (r:=r) ops.toList (List.range ops.size) ?_ s.n s a w h hr (fun s' a' w' h1 h2=>⟨.normal,s',rfl,h1,h2⟩))
     apply List.ext_getElem?
     intro i
     simp only [List.getElem?_map]
     by_cases hi:i < ops.size
     · rw [List.getElem?_range hi]; simp [hi]
     · rw [List.getElem?_eq_none (by simpa using hi),List.getElem?_eq_none (by simpa using hi)]; rfl
   | true =>
     simp only [run] at hr
     have hs:=hk.2
     split at hr
     · rename_i p hp
       simp only [hp] at hs
       rw [hide_eq] at hr
       simp only [orP] at hr
       exact sound_fork hE hmix hkp hk.1 hs (Rel.frzS (canon_ok hE hkp h) _) hr (fun s' a' w' h1 h2=>⟨.normal,s',rfl,h1,h2⟩)
     · rename_i hp
       simp only [hp] at hs
       split at hr
       · rename_i ord ho
         simp only [ho] at hs
         exact sound_draw hE hmix hk.1 hs h hr (fun s' a' w' h1 h2=>⟨.normal,s',rfl,h1,h2⟩)
       · cases hr
 | seq x y ihx ihy =>
   intro hk ρ κ r s a w h hr
   simp only [Zhx,Bool.and_eq_true] at hk
   simp only [run] at hr
   refine wp_seq (wp_mono (ihx hk.1 _ r s a w h hr) (fun e a' w'=>?_))
   rintro ⟨x,s',rfl,h1,h2⟩
   cases x with
   | normal =>
     rw [Ziq] at h1
     exact ihy hk.2 κ r _ a' w' (canAt_ok hE hkp h2) h1
   | exit id=>exact ⟨.exit id,s',rfl,h1,h2⟩
   | ret=>exact ⟨.ret,s',rfl,h1,h2⟩
 | cond c x y ihx ihy =>
   intro hk ρ κ r s a w h hr
   simp only [Zhx,Bool.and_eq_true] at hk
   simp only [run] at hr
   split at hr
   · rename_i t hc
     have hev:=h.cond hE hc
     split at hr
     · rename_i d
       have hc':s.get d = .val .bool t:=hc
       rcases Zfj hr with ⟨rfl,hr⟩ | ⟨rfl,hr⟩
       · exact wp_cond hev (ihx hk.1 κ r (s.put (some d) (.val .bool true)) a w (h.eqv (Zgp hc')) hr)
       · exact wp_cond hev (ihy hk.2 κ r (s.put (some d) (.val .bool false)) a w (h.eqv (Zgp hc')) hr)
     · rcases Zfj hr with ⟨rfl,hr⟩ | ⟨rfl,hr⟩
       · exact wp_cond hev (ihx hk.1 κ r s a w h hr)
       · exact wp_cond hev (ihy hk.2 κ r s a w h hr)
   · cases hr
 | block id x ih =>
   intro hk ρ κ r s a w h hr
   simp only [Zhx] at hk
   simp only [run] at hr
   refine wp_block (wp_mono (ih hk _ r s a w h hr) (fun e a' w'=>?_))
   rintro ⟨x,s',rfl,h1,h2⟩
   cases x with
   | normal=>exact ⟨.normal,s',rfl,h1,h2⟩
   | ret=>exact ⟨.ret,s',rfl,h1,h2⟩
   | exit j =>
     simp only [blockK] at h1
     simp only [exOf,Exit.inBlock]
     split at h1
     · rename_i e; rw [if_pos e]; exact ⟨.normal,s',rfl,h1,h2⟩
     · rename_i e; rw [if_neg e]; exact ⟨.exit j,s',rfl,h1,h2⟩
 | loop x ih =>
   intro hk ρ κ r s a w h hr
   simp only [Zhx] at hk
   simp only [run,loopR_def] at hr
   obtain ⟨k,hr⟩:=lim_some hr
   let M:Act -> World -> Nat -> Prop:=fun a w k=>∃ s,iter An x (run E An x) κ k s = some r /\ Rel E w0 Ob A B N μ0 s.n s a w
   let I:Act -> World -> Prop:=fun a w=>∃ k,M a w k
   classical
   let ms:Act -> World -> Nat:=fun a w=>if h:∃ k,M a w k then Classical.choose (least h) else 0
   have hms:∀ a w (h:∃ k,M a w k),M a w (ms a w) /\ ∀ j,M a w j -> ms a w <= j:=fun a w h=>by
    have e:ms a w = Classical.choose (least h):=dif_pos h
    rw [e]; exact Classical.choose_spec (least h)
   refine wp_loop I ms ⟨k,_,hr,canAt_ok hE hkp h⟩ (fun a w hI=>?_)
   obtain ⟨⟨s1,hs1,hrel⟩,hmin⟩:=hms a w hI
   cases hn:ms a w with
   | zero=>rw [hn] at hs1; simp [iter] at hs1
   | succ n =>
     rw [hn] at hs1
     simp only [iter] at hs1
     refine wp_mono (ih hk _ r s1 a w hrel hs1) (fun e a' w'=>?_)
     rintro ⟨y,s',rfl,h1,h2⟩
     cases y with
     | normal =>
       have hM:M a' w' n:=⟨_,h1,canAt_ok hE hkp h2⟩
       exact ⟨⟨n,hM⟩,Nat.lt_succ_of_le ((hms a' w' ⟨n,hM⟩).2 n hM)⟩
     | exit id=>exact ⟨.exit id,s',rfl,h1,h2⟩
     | ret=>exact ⟨.ret,s',rfl,h1,h2⟩
 | _=>intro _ ρ κ r s a w h hr; simp [run] at hr
end
end Go.E
namespace Go.E
open Go Go.RowKit
def rvS (tmps:Array Value):ResultVar -> Sem Value
 | .tmp t=>pure (tmps.getD t undef)
 | .cell a t=>do loadVar t (← asAddr (tmps.getD a undef))
def finV:List Value -> Value
 | [v]=>v
 | vs=>.tuple vs.toArray
def RunL (P:Program) (tmps:Array Value) (w:World):List ResultVar -> List Value -> Prop
 | [],[]=>True
 | r :: rs,v :: vs=>(rvS tmps r).run P w = .ok v w /\ RunL P tmps w rs vs
 | _,_=>False
section
variable {P:Program} {E:Env} {w0:World} {Ob A B F F':Nat -> Prop} {μ:Mu} {m:Hp} {w:World} {s:St} {a:Act} {v:V}
theorem mapM_run {tmps:Array Value}:∀ (rs:List ResultVar) (vs:List Value),RunL P tmps w rs vs -> (rs.mapM (rvS tmps)).run P w = .ok vs w
 | [],[],_=>by simp
 | r :: rs,v :: vs,h=>by simp [h.1,mapM_run rs vs h.2]
 | [],_ :: _,h=>h.elim
 | _ :: _,[],h=>h.elim
theorem results_run {fn:Func} {rs:List ResultVar} (hr:fn.results = rs.toArray) {tmps:Array Value} {vs:List Value} (h:RunL P tmps w rs vs):(results fn tmps).run P w = .ok (finV vs) w:=by
 have e:results fn tmps = (do let vs ← fn.results.mapM (rvS tmps); pure (if h:vs.size = 1 then vs[0] else .tuple vs)):=by
  unfold results
  congr 1
 rw [e,hr,List.mapM_toArray]
 simp only [Sem.run_bind,Sem.run_map,mapM_run rs vs h]
 match vs with
 | []=>simp [finV]
 | [v]=>simp [finV]
 | _ :: _ :: _=>simp [finV]
theorem rv_ok (h:Pre P E w0 Ob A B F μ s a w) (ht:∀ t,R F B w μ (s.get t) (a.tmps.getD t undef)) (r:ResultVar) (hu:rvV E s r ≠ .undef):∃ cv,(rvS a.tmps r).run P w = .ok cv w /\ R F B w μ (rvV E s r) cv:=by
 cases r with
 | tmp t=>exact ⟨_,by simp [rvS],ht t⟩
 | cell x t =>
   simp only [rvV] at hu ⊢
   split at hu
   · rename_i l b off hl hx
     split at hu
     · rename_i cs hb
       split at hu
       · rename_i v hv
         have hr:=ht x
         rw [hx] at hr
         obtain ⟨q,e4,ad,vs,k1,k2,k3,k4,k5⟩:=h.mem.box b _ hb
         simp only [R] at hr
         obtain ⟨o',e1,p,e2,e3⟩:=hr
         rw [e1] at e4; cases e4
         obtain ⟨ad',e5,rfl⟩:=e3 q rfl
         rw [k1] at e5; cases e5
         have hv':cellK l cs off s.m (fun v m=>some (v,m)) = some (v,s.m):=by
          unfold cellK at hv ⊢
          split at hv
          · split at hv
            · simp only [Option.some.injEq] at hv; rw [if_pos ‹_›,hv]
            · cases hv
          · split at hv
            · simp only [Option.some.injEq] at hv; rw [← hv]
            · cases hv
         obtain ⟨_,cv,e6,e7⟩:=cell_load (h.env.lay t l hl) k3 k4 hv'
         refine ⟨cv,by simp [rvS,e2,asAddr,e6],?_⟩
         exact e7
       · exact absurd rfl hu
     · exact absurd rfl hu
   · exact absurd rfl hu
theorem Zhm {o:RO} {x:D o.ty} (h:getRO m v o = some x):v ≠ .undef:=by
 rintro rfl
 cases o with
 | val τ =>
   have h':Zgh m τ .undef = some x:=h
   cases τ <;> simp [Zgh,Zel,Zeq,dpOf] at h'
 | own τ=>cases h
 | st τ=>cases h
 | mx τ off σ es=>cases h
 | dp τ=>cases h
theorem Zfn {τ:Ty} (x:D τ):∀ (ts:List Ty) (r:D (Zdt ts)),Zez ts (Zfy x ts r) = x
 | [],_=>rfl
 | _ :: _,_=>rfl
theorem Zfm {τ:Ty} (x:D τ):∀ (ts:List Ty) (r:D (Zdt ts)),Zex ts (Zfy x ts r) = r
 | [],_=>rfl
 | _ :: _,_=>rfl
def Owns (F' B:Nat -> Prop) (w:World) (μ:Mu) (m:Hp):List (Option Nat) -> List MB -> List Bx -> Prop
 | [],[],[]=>True
 | i :: is,q :: qs,x :: xs=>((∀ b,i = some b -> ∃ y,m.at b = some y /\ y.isFz = false /\ μ b = some (some q)) /\ (i = none -> q.a = none) /\ Zd2 F' B w noMu x q /\ okBx x = true /\ (x.plain = true ∨ ∃ b,i = some b /\ m.at b = some x)) /\ Owns F' B w μ m is qs xs
 | _,_,_=>False
theorem Zh7:∀ (τ:Ty) (x:D τ),(Zds τ x).all Zep = true
 | .pr a b,x=>by
   show (Zds a x.1 ++ Zds b x.2).all Zep = true
   rw [List.all_append,Zh7 a,Zh7 b]; rfl
 | .q,x=>rfl
 | .unit,x=>rfl
 | .int k,x=>rfl
 | .bool,x=>rfl
 | .str,x=>rfl
 | .err,x=>rfl
 | .sl e,x=>rfl
theorem st_box (h:Mem E.G w0 Ob A B F μ m w) (hF:∀ b,F b -> F' b) {b:Nat} {cs:List V} (hb:m.at b = some (.cs cs)) (hv:In F' μ m w (cs.flatMap Ze3)) {τ:Ty} {x:D τ} (hx:asm m τ cs = some (x,[])) :
  ∃ q,μ b = some (some q) /\ Zd2 F' B w noMu (.cs (Zds τ x)) q:=by
 obtain ⟨q,e4,ad,vs,k1,k2,k3,k4,k5⟩:=h.box b _ hb
 obtain ⟨v1,v2,e1,e2,e3,_⟩:=asm_ok h hF τ k3 hv hx
 have:v2 = []:=by cases v2 with
  | nil=>rfl
  | cons _ _=>simp [RL] at e3
 subst this
 rw [List.append_nil] at e1
 subst e1
 have k:=Zgr (B:=B) (μ:=noMu) τ e2
 have l1:=RL.len k
 have l2:=RL.len k3
 exact ⟨q,e4,ad,vs,k1,k2,k,k4,by rw [l1,← l2]; exact k5⟩
theorem resParts_val (ps:List PT) (t:ResultVar) (τ:Ty) (r:List (ResultVar × RO)) (x:D τ) (y:D (Zdt ((r.map fun p:ResultVar × RO=>p.2.ty) ++ Zdg ps))) (k:Nat) :
  Zb1 ps ((t,RO.val τ) :: r) (Zfy (τ:=τ) x ((r.map fun p:ResultVar × RO=>p.2.ty) ++ Zdg ps) y) k = (.val τ x :: (Zb1 ps r y k).1,(Zb1 ps r y k).2.1,(Zb1 ps r y k).2.2):=by
 show (match Zb1 ps r (Zex (τ:=τ) _ (Zfy (τ:=τ) x ((r.map fun p:ResultVar × RO=>p.2.ty) ++ Zdg ps) y)) k with | (vs,bs,os)=>(V.val τ (Zez (τ:=τ) _ (Zfy (τ:=τ) x ((r.map fun p:ResultVar × RO=>p.2.ty) ++ Zdg ps) y)) :: vs,bs,os)) = _
 rw [Zfm,Zfn]
theorem resParts_own (ps:List PT) (t:ResultVar) (τ:Ty) (r:List (ResultVar × RO)) (x:D (.sl τ)) (y:D (Zdt ((r.map fun p:ResultVar × RO=>p.2.ty) ++ Zdg ps))) (k:Nat) :
  Zb1 ps ((t,RO.own τ) :: r) (Zfy (τ:=.sl τ) x ((r.map fun p:ResultVar × RO=>p.2.ty) ++ Zdg ps) y) k = (.arr k :: (Zb1 ps r y (k + 1)).1,.rows τ x :: (Zb1 ps r y (k + 1)).2.1,(Zb1 ps r y (k + 1)).2.2):=by
 show (match Zb1 ps r (Zex (τ:=.sl τ) _ (Zfy (τ:=.sl τ) x ((r.map fun p:ResultVar × RO=>p.2.ty) ++ Zdg ps) y)) (k + 1) with | (vs,bs,os)=>(V.arr k :: vs,Bx.rows τ (Zez (τ:=.sl τ) _ (Zfy (τ:=.sl τ) x ((r.map fun p:ResultVar × RO=>p.2.ty) ++ Zdg ps) y)) :: bs,os)) = _
 rw [Zfm,Zfn]
theorem resParts_st (ps:List PT) (t:ResultVar) (τ:Ty) (r:List (ResultVar × RO)) (x:D τ) (y:D (Zdt ((r.map fun p:ResultVar × RO=>p.2.ty) ++ Zdg ps))) (k:Nat) :
  Zb1 ps ((t,RO.st τ) :: r) (Zfy (τ:=τ) x ((r.map fun p:ResultVar × RO=>p.2.ty) ++ Zdg ps) y) k = (.ptr k 0 :: (Zb1 ps r y (k + 1)).1,.cs (Zds τ x) :: (Zb1 ps r y (k + 1)).2.1,(Zb1 ps r y (k + 1)).2.2):=by
 show (match Zb1 ps r (Zex (τ:=τ) _ (Zfy (τ:=τ) x ((r.map fun p:ResultVar × RO=>p.2.ty) ++ Zdg ps) y)) (k + 1) with | (vs,bs,os)=>(V.ptr k 0 :: vs,Bx.cs (Zds τ (Zez (τ:=τ) _ (Zfy (τ:=τ) x ((r.map fun p:ResultVar × RO=>p.2.ty) ++ Zdg ps) y))) :: bs,os)) = _
 rw [Zfm,Zfn]
theorem resParts_mx (ps:List PT) (t:ResultVar) (τ:Ty) (off:Nat) (σ:Ty) (es:List Nat) (r:List (ResultVar × RO)) (x:D τ) (y:D (Zdt ((r.map fun p:ResultVar × RO=>p.2.ty) ++ Zdg ps))) (k:Nat) :
  Zb1 ps ((t,RO.mx τ off σ es) :: r) (Zfy (τ:=τ) x ((r.map fun p:ResultVar × RO=>p.2.ty) ++ Zdg ps) y) k = (.agg ((empL (Zds τ x) es).set off (.arr k)) :: (Zb1 ps r y (k + 1)).1,.rows σ ((Zhl (Zds τ x) off σ).getD []) :: (Zb1 ps r y (k + 1)).2.1,(Zb1 ps r y (k + 1)).2.2):=by
 show (match Zb1 ps r (Zex (τ:=τ) _ (Zfy (τ:=τ) x ((r.map fun p:ResultVar × RO=>p.2.ty) ++ Zdg ps) y)) (k + 1) with | (vs,bs,os)=>(V.agg ((empL (Zds τ (Zez (τ:=τ) _ (Zfy (τ:=τ) x ((r.map fun p:ResultVar × RO=>p.2.ty) ++ Zdg ps) y))) es).set off (.arr k)) :: vs,Bx.rows σ ((Zhl (Zds τ (Zez (τ:=τ) _ (Zfy (τ:=τ) x ((r.map fun p:ResultVar × RO=>p.2.ty) ++ Zdg ps) y))) off σ).getD []) :: bs,os)) = _
 rw [Zfm,Zfn]
theorem resParts_dp (ps:List PT) (t:ResultVar) (τ:Ty) (r:List (ResultVar × RO)) (x:D (.sl τ)) (y:D (Zdt ((r.map fun p:ResultVar × RO=>p.2.ty) ++ Zdg ps))) (k:Nat) :
  Zb1 ps ((t,RO.dp τ) :: r) (Zfy (τ:=.sl τ) x ((r.map fun p:ResultVar × RO=>p.2.ty) ++ Zdg ps) y) k = (.arr k :: (Zb1 ps r y (k + 1)).1,.dp τ x :: (Zb1 ps r y (k + 1)).2.1,(Zb1 ps r y (k + 1)).2.2):=by
 show (match Zb1 ps r (Zex (τ:=.sl τ) _ (Zfy (τ:=.sl τ) x ((r.map fun p:ResultVar × RO=>p.2.ty) ++ Zdg ps) y)) (k + 1) with | (vs,bs,os)=>(V.arr k :: vs,Bx.dp τ (Zez (τ:=.sl τ) _ (Zfy (τ:=.sl τ) x ((r.map fun p:ResultVar × RO=>p.2.ty) ++ Zdg ps) y)) :: bs,os)) = _
 rw [Zfm,Zfn]
theorem Zhe {ps:List PT} {t:ResultVar} {o:RO} {r:List (ResultVar × RO)} {y:D (Zdt (((t,o) :: r).map (·.2.ty) ++ Zdg ps))} (hy:Zf8 E s ps ((t,o) :: r) = some y) :
  ∃ (x:D o.ty) (y':D (Zdt ((r.map fun p:ResultVar × RO=>p.2.ty) ++ Zdg ps))),getRO s.m (rvV E s t) o = some x /\ Zf8 E s ps r = some y' /\ y = Zfy (τ:=o.ty) x ((r.map fun p:ResultVar × RO=>p.2.ty) ++ Zdg ps) y':=by
 simp only [Zf8] at hy
 split at hy
 case h_2=>cases hy
 rename_i x hx
 split at hy
 case h_2=>cases hy
 rename_i y' hy'
 simp only [Option.some.injEq] at hy
 exact ⟨x,y',hx,hy',hy.symm⟩
theorem getAll_val {ps:List PT} {t:ResultVar} {τ:Ty} {r:List (ResultVar × RO)} {y:D (Zdt (((t,RO.val τ) :: r).map (·.2.ty) ++ Zdg ps))} (hy:Zf8 E s ps ((t,.val τ) :: r) = some y) :
  ∃ (x:D τ) (y':D (Zdt ((r.map fun p:ResultVar × RO=>p.2.ty) ++ Zdg ps))),getRO s.m (rvV E s t) (.val τ) = some x /\ Zf8 E s ps r = some y' /\ ∀ k,Zb1 ps ((t,RO.val τ) :: r) y k = (.val τ x :: (Zb1 ps r y' k).1,(Zb1 ps r y' k).2.1,(Zb1 ps r y' k).2.2):=by
 obtain ⟨x,y',h1,h2,rfl⟩:=Zhe hy
 exact ⟨x,y',h1,h2,fun k=>resParts_val ps t τ r x y' k⟩
theorem getAll_own {ps:List PT} {t:ResultVar} {τ:Ty} {r:List (ResultVar × RO)} {y:D (Zdt (((t,RO.own τ) :: r).map (·.2.ty) ++ Zdg ps))} (hy:Zf8 E s ps ((t,.own τ) :: r) = some y) :
  ∃ (x:List (D τ)) (y':D (Zdt ((r.map fun p:ResultVar × RO=>p.2.ty) ++ Zdg ps))),getRO s.m (rvV E s t) (.own τ) = some x /\ Zf8 E s ps r = some y' /\
    ∀ k,Zb1 ps ((t,RO.own τ) :: r) y k = (.arr k :: (Zb1 ps r y' (k + 1)).1,.rows τ x :: (Zb1 ps r y' (k + 1)).2.1,(Zb1 ps r y' (k + 1)).2.2):=by
 obtain ⟨x,y',h1,h2,rfl⟩:=Zhe hy
 exact ⟨x,y',h1,h2,fun k=>resParts_own ps t τ r x y' k⟩
theorem getAll_st {ps:List PT} {t:ResultVar} {τ:Ty} {r:List (ResultVar × RO)} {y:D (Zdt (((t,RO.st τ) :: r).map (·.2.ty) ++ Zdg ps))} (hy:Zf8 E s ps ((t,.st τ) :: r) = some y) :
  ∃ (x:D τ) (y':D (Zdt ((r.map fun p:ResultVar × RO=>p.2.ty) ++ Zdg ps))),getRO s.m (rvV E s t) (.st τ) = some x /\ Zf8 E s ps r = some y' /\
    ∀ k,Zb1 ps ((t,RO.st τ) :: r) y k = (.ptr k 0 :: (Zb1 ps r y' (k + 1)).1,.cs (Zds τ x) :: (Zb1 ps r y' (k + 1)).2.1,(Zb1 ps r y' (k + 1)).2.2):=by
 obtain ⟨x,y',h1,h2,rfl⟩:=Zhe hy
 exact ⟨x,y',h1,h2,fun k=>resParts_st ps t τ r x y' k⟩
theorem getAll_mx {ps:List PT} {t:ResultVar} {τ:Ty} {off:Nat} {σ:Ty} {es:List Nat} {r:List (ResultVar × RO)} {y:D (Zdt (((t,RO.mx τ off σ es) :: r).map (·.2.ty) ++ Zdg ps))} (hy:Zf8 E s ps ((t,.mx τ off σ es) :: r) = some y) :
  ∃ (x:D τ) (y':D (Zdt ((r.map fun p:ResultVar × RO=>p.2.ty) ++ Zdg ps))),getRO s.m (rvV E s t) (.mx τ off σ es) = some x /\ Zf8 E s ps r = some y' /\
    ∀ k,Zb1 ps ((t,RO.mx τ off σ es) :: r) y k = (.agg ((empL (Zds τ x) es).set off (.arr k)) :: (Zb1 ps r y' (k + 1)).1,.rows σ ((Zhl (Zds τ x) off σ).getD []) :: (Zb1 ps r y' (k + 1)).2.1,(Zb1 ps r y' (k + 1)).2.2):=by
 obtain ⟨x,y',h1,h2,rfl⟩:=Zhe hy
 exact ⟨x,y',h1,h2,fun k=>resParts_mx ps t τ off σ es r x y' k⟩
theorem empL_ok {cs:List V}:∀ {es:List Nat},empOk cs es = true -> empL cs es = cs
 | [],_=>rfl
 | i :: r,h=>by
   simp only [empOk,Bool.and_eq_true] at h
   obtain ⟨h1,h2⟩:=h
   simp only [empL]
   split
   · rename_i v hv
     rw [hv] at h1
     have h1:isEmpV v = true:=h1
     have e:empV v = v:=by
      cases v with
      | val τ x =>
        cases τ with
        | sl e =>
          have hx:∀ l:List (D e),isEmpV (.val (.sl e) l) = true -> empV (.val (.sl e) l) = .val (.sl e) l:=fun l h=>by
           cases l with
           | nil=>rfl
           | cons _ _=>cases h
          exact hx x h1
        | _=>rfl
      | _=>rfl
     rw [e,set_same hv]
     exact empL_ok h2
   · exact empL_ok h2
theorem getRO_mx {τ:Ty} {off:Nat} {σ:Ty} {es:List Nat} {x:D τ} (h:getRO m v (.mx τ off σ es) = some x):∃ cs l,v = .agg cs /\ τ.agg = true /\ asm m τ cs = some (x,[]) /\ Zhl (Zds τ x) off σ = some l /\ empOk (Zds τ x) es = true /\
  ((cs[off]? = some .nil) ∨ ∃ b,cs[off]? = some (.arr b) /\ ∃ l',m.at b = some (.rows σ l')):=by
 cases v with
 | agg cs =>
   have h':(if ownAt m cs off σ = true /\ τ.agg = true then (match asm m τ cs with
    | some (x,[])=>if empOk (Zds τ x) es = true then (match Zhl (Zds τ x) off σ with
      | some _=>some x
      | none=>none) else none
    | _=>none) else none) = some x:=h
   split at h'
   case isFalse=>cases h'
   rename_i hc
   split at h'
   case h_2=>cases h'
   rename_i x' hx
   split at h'
   case isFalse=>cases h'
   rename_i hes
   split at h'
   case h_2=>cases h'
   rename_i l hl
   have h':=Option.some.inj h'
   subst h'
   refine ⟨cs,l,rfl,hc.2,hx,hl,hes,?_⟩
   have ho:=hc.1
   unfold ownAt at ho
   split at ho
   · rename_i e; exact .inl e
   · rename_i b e
     split at ho
     · rename_i τ' l' hb
       have ho:=of_decide_eq_true ho
       subst ho
       exact .inr ⟨b,e,l',hb⟩
     · cases ho
   · cases ho
 | _=>cases h
theorem getAll_dp {ps:List PT} {t:ResultVar} {τ:Ty} {r:List (ResultVar × RO)} {y:D (Zdt (((t,RO.dp τ) :: r).map (·.2.ty) ++ Zdg ps))} (hy:Zf8 E s ps ((t,.dp τ) :: r) = some y) :
  ∃ (x:List (D τ)) (y':D (Zdt ((r.map fun p:ResultVar × RO=>p.2.ty) ++ Zdg ps))),getRO s.m (rvV E s t) (.dp τ) = some x /\ Zf8 E s ps r = some y' /\
    ∀ k,Zb1 ps ((t,RO.dp τ) :: r) y k = (.arr k :: (Zb1 ps r y' (k + 1)).1,.dp τ x :: (Zb1 ps r y' (k + 1)).2.1,(Zb1 ps r y' (k + 1)).2.2):=by
 obtain ⟨x,y',h1,h2,rfl⟩:=Zhe hy
 exact ⟨x,y',h1,h2,fun k=>resParts_dp ps t τ r x y' k⟩
theorem getRO_dp {τ:Ty} {x:List (D τ)} (h:getRO m v (.dp τ) = some x):∃ b,v = .arr b /\ m.at b = some (.dp τ x):=by
 cases v with
 | arr b =>
   have h':(match m.at b with
    | some (.dp σ l)=>Zev (τ:=.sl σ) (σ:=.sl τ) l
    | _=>none) = some x:=h
   split at h'
   · rename_i σ l hb
     obtain ⟨e1,e2⟩:=Zcb h'
     cases e1
     subst e2
     exact ⟨b,rfl,hb⟩
   · cases h'
 | _=>cases h
theorem getRO_own {τ:Ty} {x:List (D τ)} (h:getRO m v (.own τ) = some x):(v = .nil /\ x = []) ∨ ∃ b,v = .arr b /\ m.at b = some (.rows τ x):=by
 cases v with
 | nil=>exact .inl ⟨rfl,by have h':some ([]:List (D τ)) = some x:=h; cases h'; rfl⟩
 | arr b =>
   have h':(match m.at b with
    | some (.rows σ l)=>Zev (τ:=.sl σ) (σ:=.sl τ) l
    | _=>none) = some x:=h
   split at h'
   · rename_i σ l hb
     obtain ⟨e1,e2⟩:=Zcb h'
     cases e1
     subst e2
     exact .inr ⟨b,rfl,hb⟩
   · cases h'
 | _=>cases h
theorem getRO_st {τ:Ty} {x:D τ} (h:getRO m v (.st τ) = some x):∃ b cs,v = .ptr b 0 /\ m.at b = some (.cs cs) /\ asm m τ cs = some (x,[]):=by
 cases v with
 | ptr b off =>
   cases off with
   | succ n=>cases h
   | zero =>
     have h':(match m.at b with
      | some (.cs cs)=>match asm m τ cs with
        | some (x,[])=>some x
        | _=>none
      | _=>none) = some x:=h
     split at h'
     · rename_i cs hb
       split at h'
       · rename_i x' hx'; cases h'; exact ⟨b,cs,rfl,hb,hx'⟩
       · cases h'
     · cases h'
 | _=>cases h
theorem parts_ok (h:Pre P E w0 Ob A B F μ s a w) (ht:∀ t,R F B w μ (s.get t) (a.tmps.getD t undef)) (hF:∀ b,F b -> F' b) (ps:List PT) :
  ∀ (ros:List (ResultVar × RO)) (k:Nat) (y:D (Zdt (ros.map (·.2.ty) ++ Zdg ps))),Zf8 E s ps ros = some y -> In F' μ s.m w (ros.flatMap fun p=>valArr s.m (rvV E s p.1) p.2) ->
    ∃ cvs ids qs rest,RunL P a.tmps w (ros.map (·.1)) cvs /\ ids.filterMap id = ros.filterMap (fun p=>ownId (rvV E s p.1) p.2) /\ Owns F' B w μ s.m ids qs (Zb1 ps ros y k).2.1 /\
      Zf0 s 0 ps = some rest /\ (Zb1 ps ros y k).2.2 = Ze5 0 ps rest /\ (Zb1 ps ros y k).1.all Zg5 = true /\ (Zb1 ps ros y k).1.length = ros.length /\
      ∀ ν:Mu,(∀ j q,qs[j]? = some q -> ν (k + j) = some (some q)) -> RL F' B w ν (Zb1 ps ros y k).1 cvs
 | [],k,y,hy,_=>⟨[],[],[],y,trivial,rfl,trivial,hy,rfl,rfl,rfl,fun ν _=>by simp [Zb1,RL]⟩
 | (t,o) :: r,k,y,hy,hin=>by
   simp only [List.flatMap_cons,In.app] at hin
   cases o with
   | val τ =>
     obtain ⟨x,y',hx,hy',e⟩:=getAll_val hy
     have e:=e k
     obtain ⟨cv,hrun,hcv⟩:=rv_ok h ht t (Zhm (o:=.val τ) hx)
     obtain ⟨cvs,ids,qs,rest,i1,i2,i3,i4,i5,i6,i7,i8⟩:=parts_ok h ht hF ps r k y' hy' hin.2
     rw [e]
     refine ⟨cv :: cvs,ids,qs,rest,⟨hrun,i1⟩,by simpa [ownId] using i2,i3,i4,i5,by simp [Zg5,Zf1,Zep,i6],by simp [i7],fun ν hν=>?_⟩
     simp only [RL]
     refine ⟨?_,i8 ν hν⟩
     have k:=typed_ok h.mem hF hcv (by simpa [valArr] using hin.1) (x:=x) hx
     simp only [R]
     cases hτ:τ.agg with
     | true=>exact k.1 hτ
     | false=>exact k.2 hτ
   | own τ =>
     obtain ⟨x,y',hx,hy',e⟩:=getAll_own hy
     have e:=e k
     obtain ⟨cv,hrun,hcv⟩:=rv_ok h ht t (Zhm (o:=.own τ) hx)
     obtain ⟨cvs,ids,qs,rest,i1,i2,i3,i4,i5,i6,i7,i8⟩:=parts_ok h ht hF ps r (k + 1) y' hy' hin.2
     rw [e]
     have fin:∀ (i:Option Nat) (q:MB),(ownId (rvV E s t) (.own τ) = i) -> (∀ b,i = some b -> ∃ y,s.m.at b = some y /\ y.isFz = false /\ μ b = some (some q)) -> (i = none -> q.a = none) -> Zd2 F' B w noMu (.rows τ x) q -> cv = .slice q.a q.len q.cap ->
       ∃ cvs ids qs rest,RunL P a.tmps w (((t,RO.own τ) :: r).map (·.1)) cvs /\ ids.filterMap id = ((t,RO.own τ) :: r).filterMap (fun p=>ownId (rvV E s p.1) p.2) /\ Owns F' B w μ s.m ids qs (Bx.rows τ x :: (Zb1 ps r y' (k + 1)).2.1) /\
         Zf0 s 0 ps = some rest /\ (Zb1 ps r y' (k + 1)).2.2 = Ze5 0 ps rest /\ (V.arr k :: (Zb1 ps r y' (k + 1)).1).all Zg5 = true /\ (V.arr k :: (Zb1 ps r y' (k + 1)).1).length = ((t,RO.own τ) :: r).length /\
         ∀ ν:Mu,(∀ j q,qs[j]? = some q -> ν (k + j) = some (some q)) -> RL F' B w ν (V.arr k :: (Zb1 ps r y' (k + 1)).1) cvs:=fun i q hi h1 h2 h3 h4=>by
      refine ⟨cv :: cvs,i :: ids,q :: qs,rest,⟨hrun,i1⟩,?_,⟨⟨h1,h2,h3,rfl,.inl rfl⟩,i3⟩,i4,i5,by simp [Zg5,Zf1,i6],by simp [i7],fun ν hν=>?_⟩
      · cases i with
        | none=>simp [hi,i2]
        | some b=>simp [hi,i2]
      · simp only [RL]
        refine ⟨?_,i8 ν (fun j q hj=>by have:=hν (j + 1) q (by simpa using hj); rw [show k + (j + 1) = k + 1 + j by omega] at this; exact this)⟩
        have:=hν 0 q (by simp)
        simp only [R]
        exact ⟨some q,by simpa using this,_,_,_,h4,fun q' e=>by cases e; exact ⟨rfl,rfl,rfl⟩⟩
     rcases getRO_own hx with ⟨hv,rfl⟩ | ⟨b,hv,hb⟩
     · rw [hv] at hcv
       simp only [R] at hcv
       exact fin none ⟨none,0,0,τ.width⟩ (by rw [hv]; rfl) (fun b e=>by cases e) (fun _=>rfl) ⟨rfl,Nat.le_refl _,rfl,fun _=>rfl,fun ad e=>by cases e⟩ hcv
     · obtain ⟨q,e4,k1,k2,k3,k4,k5⟩:=h.mem.box b _ hb
       rw [hv] at hcv
       simp only [R] at hcv
       obtain ⟨o',e1,a0,n0,c0,e5,e3⟩:=hcv
       rw [e1] at e4; cases e4
       obtain ⟨rfl,rfl,rfl⟩:=e3 q rfl
       exact fin (some b) q (by rw [hv]; rfl) (fun c e=>by cases e; exact ⟨_,hb,rfl,e1⟩) (fun e=>by cases e)
        ⟨k1,k2,k3,k4,fun ad e=>⟨(k5 ad e).1,(k5 ad e).2.1.mono hF (Zd3 _ _) (fun _ _ e=>e),(k5 ad e).2.2⟩⟩ e5
   | st τ =>
     obtain ⟨x,y',hx,hy',e⟩:=getAll_st hy
     have e:=e k
     obtain ⟨cv,hrun,hcv⟩:=rv_ok h ht t (Zhm (o:=.st τ) hx)
     obtain ⟨cvs,ids,qs,rest,i1,i2,i3,i4,i5,i6,i7,i8⟩:=parts_ok h ht hF ps r (k + 1) y' hy' hin.2
     rw [e]
     obtain ⟨b,cs,hv,hb,hx'⟩:=getRO_st hx
     have hin1:In F' μ s.m w (cs.flatMap Ze3):=by
      have:=hin.1
      rw [hv] at this
      simpa [valArr,Zei,hb] using this
     obtain ⟨q,e1,e2⟩:=st_box h.mem hF hb hin1 hx'
     have hid:ownId (rvV E s t) (.st τ) = some b:=by rw [hv]; rfl
     rw [hv] at hcv
     simp only [R] at hcv
     obtain ⟨o',e3,p,e4,e5⟩:=hcv
     rw [e1] at e3; cases e3
     obtain ⟨ad,e6,rfl⟩:=e5 q rfl
     refine ⟨cv :: cvs,some b :: ids,q :: qs,rest,⟨hrun,i1⟩,by simp [hid,i2],⟨⟨fun c e=>(by cases e; exact ⟨_,hb,rfl,e1⟩),fun e=>(by cases e),e2,Zh7 _ _,.inl rfl⟩,i3⟩,i4,i5,by simp [Zg5,Zf1,i6],by simp [i7],fun ν hν=>?_⟩
     simp only [RL]
     refine ⟨?_,i8 ν (fun j q hj=>by have:=hν (j + 1) q (by simpa using hj); rw [show k + (j + 1) = k + 1 + j by omega] at this; exact this)⟩
     have:=hν 0 q (by simp)
     simp only [R]
     exact ⟨some q,by simpa using this,_,e4,fun q' e=>by cases e; exact ⟨ad,e6,rfl⟩⟩
   | dp τ =>
     obtain ⟨x,y',hx,hy',e⟩:=getAll_dp hy
     have e:=e k
     obtain ⟨cv,hrun,hcv⟩:=rv_ok h ht t (Zhm (o:=.dp τ) hx)
     obtain ⟨cvs,ids,qs,rest,i1,i2,i3,i4,i5,i6,i7,i8⟩:=parts_ok h ht hF ps r (k + 1) y' hy' hin.2
     rw [e]
     obtain ⟨b,hv,hb⟩:=getRO_dp hx
     obtain ⟨q,e4,hbx⟩:=h.mem.box b _ hb
     rw [hv] at hcv
     simp only [R] at hcv
     obtain ⟨o',e1,a0,n0,c0,e5,e3⟩:=hcv
     rw [e1] at e4; cases e4
     obtain ⟨rfl,rfl,rfl⟩:=e3 q rfl
     have hid:ownId (rvV E s t) (.dp τ) = some b:=by rw [hv]; rfl
     refine ⟨cv :: cvs,some b :: ids,q :: qs,rest,⟨hrun,i1⟩,by simp [hid,i2],⟨⟨fun c e=>(by cases e; exact ⟨_,hb,rfl,e1⟩),fun e=>(by cases e),hbx,rfl,.inr ⟨b,rfl,hb⟩⟩,i3⟩,i4,i5,by simp [Zg5,Zf1,i6],by simp [i7],fun ν hν=>?_⟩
     simp only [RL]
     refine ⟨?_,i8 ν (fun j q hj=>by have:=hν (j + 1) q (by simpa using hj); rw [show k + (j + 1) = k + 1 + j by omega] at this; exact this)⟩
     have:=hν 0 q (by simp)
     simp only [R]
     exact ⟨some q,by simpa using this,_,_,_,e5,fun q' e=>by cases e; exact ⟨rfl,rfl,rfl⟩⟩
   | mx τ off σ es =>
     obtain ⟨x,y',hx,hy',e⟩:=getAll_mx hy
     have e:=e k
     obtain ⟨cv,hrun,hcv⟩:=rv_ok h ht t (Zhm (o:=.mx τ off σ es) hx)
     obtain ⟨cvs,ids,qs,rest,i1,i2,i3,i4,i5,i6,i7,i8⟩:=parts_ok h ht hF ps r (k + 1) y' hy' hin.2
     obtain ⟨cs,l,hv,hτ,hx',hl,hes,hown⟩:=getRO_mx hx
     rw [e,empL_ok hes]
     rw [hv] at hcv
     simp only [R] at hcv
     obtain ⟨us,rfl,hr⟩:=hcv
     have hin1:In F' μ s.m w ((cs.set off .nil).flatMap Ze3):=by
      have:=hin.1
      rw [hv] at this
      simpa [valArr] using this
     have hw:off < τ.width:=by
      have:=(List.getElem?_eq_some_iff.1 (Zgm hl)).1
      rwa [Zd9] at this
     obtain ⟨_,hlen,hg⟩:=asm_get s.m τ hx'
     obtain ⟨x0,hx0,hset⟩:=asm_set s.m τ hx' (Zgm hl)
     have hr0:RL F B w μ (cs.set off .nil) (us.toList.set off (.slice none 0 0)):=RL.put hr (by simp only [R])
     obtain ⟨v1,v2,f1,f2,f3,_⟩:=asm_ok h.mem hF τ hr0 hin1 hx0
     have:v2 = []:=by cases v2 with
      | nil=>rfl
      | cons _ _=>simp [RL] at f3
     subst this
     rw [List.append_nil] at f1; subst f1
     have hsim:Zg5 (V.agg ((Zds τ x).set off (.arr k))) = true:=by
      show List.all ((Zds τ x).set off (.arr k)) Zf1 = true
      rw [List.all_eq_true]
      intro c hc
      rcases List.mem_or_eq_of_mem_set hc with hc | rfl
      · have:=Zh7 τ x
        rw [List.all_eq_true] at this
        have:=this c hc
        cases c <;> simp [Zep] at this <;> rfl
      · rfl
     have fin:∀ (i:Option Nat) (q:MB),(ownId (rvV E s t) (.mx τ off σ es) = i) -> (∀ b,i = some b -> ∃ y,s.m.at b = some y /\ y.isFz = false /\ μ b = some (some q)) -> (i = none -> q.a = none) -> Zd2 F' B w noMu (.rows σ l) q -> us.toList[off]? = some (.slice q.a q.len q.cap) ->
       ∃ cvs ids qs rest,RunL P a.tmps w (((t,RO.mx τ off σ es) :: r).map (·.1)) cvs /\ ids.filterMap id = ((t,RO.mx τ off σ es) :: r).filterMap (fun p=>ownId (rvV E s p.1) p.2) /\ Owns F' B w μ s.m ids qs (Bx.rows σ ((Zhl (Zds τ x) off σ).getD []) :: (Zb1 ps r y' (k + 1)).2.1) /\
         Zf0 s 0 ps = some rest /\ (Zb1 ps r y' (k + 1)).2.2 = Ze5 0 ps rest /\ (V.agg ((Zds τ x).set off (.arr k)) :: (Zb1 ps r y' (k + 1)).1).all Zg5 = true /\ (V.agg ((Zds τ x).set off (.arr k)) :: (Zb1 ps r y' (k + 1)).1).length = ((t,RO.mx τ off σ es) :: r).length /\
         ∀ ν:Mu,(∀ j q,qs[j]? = some q -> ν (k + j) = some (some q)) -> RL F' B w ν (V.agg ((Zds τ x).set off (.arr k)) :: (Zb1 ps r y' (k + 1)).1) cvs:=fun i q hi h1 h2 h3 h4=>by
      refine ⟨.agg us :: cvs,i :: ids,q :: qs,rest,⟨hrun,i1⟩,?_,⟨⟨h1,h2,by rw [hl]; exact h3,rfl,.inl rfl⟩,i3⟩,i4,i5,by rw [List.all_cons,hsim,i6]; rfl,by simp [i7],fun ν hν=>?_⟩
      · cases i with
        | none=>simp [hi,i2]
        | some b=>simp [hi,i2]
      · simp only [RL]
        refine ⟨?_,i8 ν (fun j q hj=>by have:=hν (j + 1) q (by simpa using hj); rw [show k + (j + 1) = k + 1 + j by omega] at this; exact this)⟩
        have hν0:=hν 0 q (by simp)
        simp only [R]
        refine ⟨us,rfl,?_⟩
        rw [hset]
        have k0:=RL.put (i:=off) (Zgr (B:=B) (μ:=ν) τ f2) (v:=.arr k) (cv:=.slice q.a q.len q.cap) (by
         simp only [R]
         exact ⟨some q,by simpa using hν0,_,_,_,rfl,fun q' e=>by cases e; exact ⟨rfl,rfl,rfl⟩⟩)
        rwa [List.set_set,set_same h4] at k0
     rcases hown with hc | ⟨b,hc,l',hb⟩
     · obtain ⟨ρ,z,hz,hz1⟩:=hg off hw _ hc
       rw [Zgm hl] at hz
       cases hz
       have hz1:some ([]:List (D σ)) = some l:=hz1
       cases hz1
       obtain ⟨cv,hcv,hrc⟩:=RL.get hr hc
       simp only [R] at hrc
       subst hrc
       exact fin none ⟨none,0,0,σ.width⟩ (by rw [hv]; simp [ownId,hc,idArr]) (fun b e=>by cases e) (fun _=>rfl) ⟨rfl,Nat.le_refl _,rfl,fun _=>rfl,fun ad e=>by cases e⟩ hcv
     · obtain ⟨ρ,z,hz,hz1⟩:=hg off hw _ hc
       rw [Zgm hl] at hz
       cases hz
       obtain ⟨e1,rfl⟩:=Zcb (Zin hb hz1)
       obtain ⟨cv,hcv,hrc⟩:=RL.get hr hc
       simp only [R] at hrc
       obtain ⟨o',e1,a0,n0,c0,rfl,e3⟩:=hrc
       obtain ⟨q,e4,k1,k2,k3,k4,k5⟩:=h.mem.box b _ hb
       rw [e1] at e4; cases e4
       obtain ⟨rfl,rfl,rfl⟩:=e3 q rfl
       exact fin (some b) q (by rw [hv]; simp [ownId,hc,idArr]) (fun c e=>by cases e; exact ⟨_,hb,rfl,e1⟩) (fun e=>by cases e)
        ⟨k1,k2,k3,k4,fun ad e=>⟨(k5 ad e).1,(k5 ad e).2.1.mono hF (Zd3 _ _) (fun _ _ e=>e),(k5 ad e).2.2⟩⟩ hcv
end
end Go.E
namespace Go.E
open Go Go.RowKit
section
variable {P:Program} {E:Env} {G:List (Nat × List V)} {w0:World} {Ob A B F F':Nat -> Prop} {μ:Mu} {m:Hp} {w:World} {s:St} {a:Act} {v:V} {io:Nat -> Option MB}
theorem keys_ge:∀ (ps:List PT) (i j:Nat),j ∈ keys i ps -> i <= j /\ j < i + ps.length
 | [],_,_,h=>by simp [keys] at h
 | p :: ps,i,j,h=>by
   have go:j ∈ keys (i + 1) ps -> i <= j /\ j < i + (p :: ps).length:=fun h=>by
    have:=keys_ge ps (i + 1) j h
    simp only [List.length_cons]; omega
   have own:j ∈ i :: keys (i + 1) ps -> i <= j /\ j < i + (p :: ps).length:=fun h=>by
    rcases List.mem_cons.1 h with rfl | h
    · simp only [List.length_cons]; omega
    · exact go h
   cases p with
   | val τ=>exact go h
   | rc τ=>exact go h
   | fn f cs=>exact go h
   | st τ=>exact own h
   | io τ=>exact own h
   | mx τ off σ=>exact own h
   | mv τ=>exact go h
theorem mvs_ge:∀ (ps:List PT) (i j:Nat),j ∈ mvsK i ps -> i <= j /\ j < i + ps.length /\ j ∉ keys i ps
 | [],_,_,h=>by simp [mvsK] at h
 | p :: ps,i,j,h=>by
   have go:j ∈ mvsK (i + 1) ps -> i <= j /\ j < i + (p :: ps).length /\ j ∉ keys i (p :: ps):=fun h=>by
    obtain ⟨h1,h2,h3⟩:=mvs_ge ps (i + 1) j h
    refine ⟨by omega,by simp only [List.length_cons]; omega,fun hk=>h3 ?_⟩
    have:j ≠ i:=by omega
    cases p <;> first | exact hk | exact (List.mem_cons.1 hk).resolve_left this
   cases p with
   | mv τ =>
     rcases List.mem_cons.1 h with rfl | h
     · refine ⟨Nat.le_refl _,by simp only [List.length_cons]; omega,fun hk=>?_⟩
       have hk:j ∈ keys (j + 1) ps:=hk
       have:=(keys_ge ps (j + 1) j hk).1
       omega
     · exact go h
   | _=>exact go h
def KM (i:Nat) (ps:List PT) (j:Nat):Prop:=j ∈ keys i ps ∨ j ∈ mvsK i ps
theorem KM.tail {i:Nat} {p:PT} {ps:List PT} {j:Nat} (h:KM (i + 1) ps j):KM i (p :: ps) j:=by
 rcases h with h | h
 · left; cases p <;> first | exact h | exact List.mem_cons_of_mem _ h
 · right; cases p <;> first | exact h | exact List.mem_cons_of_mem _ h
theorem mvsK_tail {i:Nat} {p:PT} {ps:List PT} {j:Nat} (h:j ∈ mvsK (i + 1) ps):j ∈ mvsK i (p :: ps):=by
 cases p <;> first | exact h | exact List.mem_cons_of_mem _ h
theorem offs_ge:∀ (ps:List PT) (i j:Nat),j < i -> look (offsK i ps) j = none
 | [],_,_,_=>rfl
 | p :: ps,i,j,h=>by
   have go:=offs_ge ps (i + 1) j (by omega)
   cases p with
   | mx τ off σ=>simp only [offsK,look]; rw [if_neg (by omega)]; exact go
   | _=>exact go
def OffsOk (offs:List (Nat × Nat)) (i:Nat) (ps:List PT):Prop:=∀ j,i <= j -> look offs j = look (offsK i ps) j
theorem OffsOk.tail {offs:List (Nat × Nat)} {i:Nat} {p:PT} {ps:List PT} (h:OffsOk offs i (p :: ps)):OffsOk offs (i + 1) ps:=fun j hj=>by
 rw [h j (by omega)]
 cases p with
 | mx τ off σ=>simp only [offsK,look]; rw [if_neg (by omega)]
 | _=>rfl
theorem outs_ok (hM:Mem G w0 Ob A B F μ s.m w) (hF:∀ b,F b -> F' b):∀ (ps:List PT) (i:Nat) (r:D (Zdt (Zdg ps))),Zf0 s i ps = some r -> In F' μ s.m w ((keys i ps).flatMap (Zei s.m)) ->
  (∀ j x,(j,x) ∈ Ze5 i ps r -> j ∈ keys i ps /\ ∃ q,μ j = some (some q) /\ Zd2 F' B w noMu x q) /\ (∀ j ∈ keys i ps,∃ y,s.m.at j = some y /\ y.isFz = false) /\ (Ze5 i ps r).map (·.1) = keys i ps
 | [],i,r,_,_=>⟨fun j x h=>by simp [Ze5] at h,fun j h=>by simp [keys] at h,rfl⟩
 | .val τ :: ps,i,r,h,hin=>outs_ok hM hF ps (i + 1) r h hin
 | .rc τ :: ps,i,r,h,hin=>outs_ok hM hF ps (i + 1) r h hin
 | .mv τ :: ps,i,r,h,hin=>outs_ok hM hF ps (i + 1) r h hin
 | .fn _ _ :: ps,i,r,h,hin=>outs_ok hM hF ps (i + 1) r h hin
 | .st τ :: ps,i,r,h,hin=>by
   have hin':In F' μ s.m w (Zei s.m i) /\ In F' μ s.m w ((keys (i + 1) ps).flatMap (Zei s.m)):=by
    have e:(keys i (.st τ :: ps)).flatMap (Zei s.m) = Zei s.m i ++ (keys (i + 1) ps).flatMap (Zei s.m):=rfl
    rw [e,In.app] at hin; exact hin
   have h':(match getOut s i τ with
    | some x=>match Zf0 s (i + 1) ps with
      | some r=>some (Zfy (τ:=τ) x (Zdg ps) r)
      | none=>none
    | none=>none) = some r:=h
   split at h'
   case h_2=>cases h'
   rename_i x hx
   split at h'
   case h_2=>cases h'
   rename_i r' hr'
   have h':=Option.some.inj h'
   obtain ⟨i1,i2,i3⟩:=outs_ok hM hF ps (i + 1) r' hr' hin'.2
   have e:Ze5 i (.st τ :: ps) r = (i,.cs (Zds τ x)) :: Ze5 (i + 1) ps r':=by
    rw [← h']
    show (i,Bx.cs (Zds τ (Zez (τ:=τ) _ (Zfy (τ:=τ) x (Zdg ps) r')))) :: Ze5 (i + 1) ps (Zex (τ:=τ) _ (Zfy (τ:=τ) x (Zdg ps) r')) = _
    rw [Zfn,Zfm]
   rw [e]
   unfold getOut at hx
   split at hx
   case h_2=>cases hx
   rename_i cs hb
   split at hx
   case h_2=>cases hx
   rename_i x' hx'
   simp only [Option.some.injEq] at hx
   subst hx
   obtain ⟨q,e1,e2⟩:=st_box (E:={ L:=[],G:=G,C:=[] }) hM hF hb (by have:=hin'.1; simpa [Zei,hb] using this) hx'
   refine ⟨fun j y hj=>?_,fun j hj=>?_,by simp [i3,keys]⟩
   · rcases List.mem_cons.1 hj with e | hj
     · cases e; exact ⟨by simp [keys],q,e1,e2⟩
     · obtain ⟨k1,k2⟩:=i1 j y hj
       exact ⟨List.mem_cons_of_mem _ k1,k2⟩
   · rcases List.mem_cons.1 hj with e | hj
     · subst e; exact ⟨_,hb,rfl⟩
     · exact i2 j hj
 | .io τ :: ps,i,r,h,hin=>by
   have hin':In F' μ s.m w (Zei s.m i) /\ In F' μ s.m w ((keys (i + 1) ps).flatMap (Zei s.m)):=by
    have e:(keys i (.io τ :: ps)).flatMap (Zei s.m) = Zei s.m i ++ (keys (i + 1) ps).flatMap (Zei s.m):=rfl
    rw [e,In.app] at hin; exact hin
   have h':(match getIo s i τ with
    | some x=>match Zf0 s (i + 1) ps with
      | some r=>some (Zfy (τ:=.sl τ) x (Zdg ps) r)
      | none=>none
    | none=>none) = some r:=h
   split at h'
   case h_2=>cases h'
   rename_i x hx
   split at h'
   case h_2=>cases h'
   rename_i r' hr'
   have h':=Option.some.inj h'
   obtain ⟨i1,i2,i3⟩:=outs_ok hM hF ps (i + 1) r' hr' hin'.2
   have e:Ze5 i (.io τ :: ps) r = (i,.rows τ x) :: Ze5 (i + 1) ps r':=by
    rw [← h']
    show (i,Bx.rows τ (Zez (τ:=.sl τ) _ (Zfy (τ:=.sl τ) x (Zdg ps) r'))) :: Ze5 (i + 1) ps (Zex (τ:=.sl τ) _ (Zfy (τ:=.sl τ) x (Zdg ps) r')) = _
    rw [Zfn,Zfm]
   rw [e]
   unfold getIo at hx
   split at hx
   case h_2=>cases hx
   rename_i σ l hb
   obtain ⟨e0,rfl⟩:=Zcb hx
   cases e0
   obtain ⟨q,e1,k1,k2,k3,k4,k5⟩:=hM.box i _ hb
   refine ⟨fun j y hj=>?_,fun j hj=>?_,by simp [i3,keys]⟩
   · rcases List.mem_cons.1 hj with e | hj
     · cases e
       exact ⟨by simp [keys],q,e1,k1,k2,k3,k4,fun ad e=>⟨(k5 ad e).1,(k5 ad e).2.1.mono hF (Zd3 _ _) (fun _ _ e=>e),(k5 ad e).2.2⟩⟩
     · obtain ⟨k1,k2⟩:=i1 j y hj
       exact ⟨List.mem_cons_of_mem _ k1,k2⟩
   · rcases List.mem_cons.1 hj with e | hj
     · subst e; exact ⟨_,hb,rfl⟩
     · exact i2 j hj
 | .mx τ0 off0 τ :: ps,i,r,h,hin=>by
   have hin':In F' μ s.m w (Zei s.m i) /\ In F' μ s.m w ((keys (i + 1) ps).flatMap (Zei s.m)):=by
    have e:(keys i (.mx τ0 off0 τ :: ps)).flatMap (Zei s.m) = Zei s.m i ++ (keys (i + 1) ps).flatMap (Zei s.m):=rfl
    rw [e,In.app] at hin; exact hin
   have h':(match getIo s i τ with
    | some x=>match Zf0 s (i + 1) ps with
      | some r=>some (Zfy (τ:=.sl τ) x (Zdg ps) r)
      | none=>none
    | none=>none) = some r:=h
   split at h'
   case h_2=>cases h'
   rename_i x hx
   split at h'
   case h_2=>cases h'
   rename_i r' hr'
   have h':=Option.some.inj h'
   obtain ⟨i1,i2,i3⟩:=outs_ok hM hF ps (i + 1) r' hr' hin'.2
   have e:Ze5 i (.mx τ0 off0 τ :: ps) r = (i,.rows τ x) :: Ze5 (i + 1) ps r':=by
    rw [← h']
    show (i,Bx.rows τ (Zez (τ:=.sl τ) _ (Zfy (τ:=.sl τ) x (Zdg ps) r'))) :: Ze5 (i + 1) ps (Zex (τ:=.sl τ) _ (Zfy (τ:=.sl τ) x (Zdg ps) r')) = _
    rw [Zfn,Zfm]
   rw [e]
   unfold getIo at hx
   split at hx
   case h_2=>cases hx
   rename_i σ l hb
   obtain ⟨e0,rfl⟩:=Zcb hx
   cases e0
   obtain ⟨q,e1,k1,k2,k3,k4,k5⟩:=hM.box i _ hb
   refine ⟨fun j y hj=>?_,fun j hj=>?_,by simp [i3,keys]⟩
   · rcases List.mem_cons.1 hj with e | hj
     · cases e
       exact ⟨by simp [keys],q,e1,k1,k2,k3,k4,fun ad e=>⟨(k5 ad e).1,(k5 ad e).2.1.mono hF (Zd3 _ _) (fun _ _ e=>e),(k5 ad e).2.2⟩⟩
     · obtain ⟨k1,k2⟩:=i1 j y hj
       exact ⟨List.mem_cons_of_mem _ k1,k2⟩
   · rcases List.mem_cons.1 hj with e | hj
     · subst e; exact ⟨_,hb,rfl⟩
     · exact i2 j hj
def avOf:PT -> V -> AV
 | .st _,.rc cs=>.st cs
 | .io _,.val (.sl e) l=>.io e l
 | .mv _,.val (.sl e) l=>.mv e l
 | .mx _ off σ,.val ρ x=>(match Zhl (Zds ρ x) off σ with
   | some l=>.mx (Zds ρ x) off σ l
   | none=>.fr (.val ρ x))
 | _,v=>.fr v
def avsOf:List PT -> List V -> List AV
 | p :: ps,v :: vs=>avOf p v :: avsOf ps vs
 | _,_=>[]
theorem Zfg {p:PT} {ps:List PT} {args:List V} {x:D (Zdt ((p :: ps).map PT.ty))} (h:Zh0 (p :: ps) args = some x) :
  ∃ v vs,args = v :: vs /\ Zg3 p v = some (Zez (τ:=p.ty) (ps.map PT.ty) x) /\ Zh0 ps vs = some (Zex (τ:=p.ty) (ps.map PT.ty) x):=by
 cases ps with
 | nil =>
   cases args with
   | nil=>cases h
   | cons v vs =>
     cases vs with
     | nil=>exact ⟨v,[],rfl,h,rfl⟩
     | cons _ _=>cases h
 | cons q r =>
   cases args with
   | nil=>cases h
   | cons v vs =>
     have h':(match Zg3 p v with
      | some x=>match Zh0 (q :: r) vs with
        | some y=>some ((x,y):D (Zdt ((p :: q :: r).map PT.ty)))
        | none=>none
      | none=>none) = some x:=h
     split at h'
     case h_2=>cases h'
     rename_i a ha
     split at h'
     case h_2=>cases h'
     rename_i b hb
     have h':=Option.some.inj h'
     subst h'
     exact ⟨v,vs,rfl,ha,hb⟩
theorem take_mx {τ:Ty} {off:Nat} {σ:Ty} {ρ:Ty} {y:D ρ} {z:D τ} (h:Zg3 (.mx τ off σ) (.val ρ y) = some z):∃ l,ρ = τ /\ ρ.agg = true /\ Zhl (Zds ρ y) off σ = some l /\ HEq z y:=by
 have h:(match Zev (τ:=ρ) (σ:=τ) y with
  | some x=>if τ.agg = true then (match Zhl (Zds τ x) off σ with
    | some _=>some x
    | none=>none) else none
  | none=>none) = some z:=h
 split at h
 case h_2=>cases h
 rename_i x hx
 obtain ⟨e,rfl⟩:=Zcb hx
 subst e
 split at h
 case isFalse=>cases h
 rename_i hτ
 split at h
 case h_2=>cases h
 rename_i l hl
 have h:=Option.some.inj h
 subst h
 exact ⟨l,rfl,hτ,hl,HEq.rfl⟩
theorem match_ok {offs:List (Nat × Nat)} {mvs o:List Nat}:∀ (ps:List PT) (i:Nat) (args:List V) (x:D (Zdt (ps.map PT.ty))),Zh0 ps args = some x -> (∀ j,i <= j -> (j ∈ o ↔ j ∈ keys i ps)) -> OffsOk offs i ps -> (∀ j,i <= j -> (j ∈ mvs ↔ j ∈ mvsK i ps)) -> Match offs mvs o i args (avsOf ps args)
 | [],i,args,x,h,_,_,_=>by
   cases args with
   | nil=>trivial
   | cons v vs=>cases h
 | p :: ps,i,args,x,h,ho,hoff,hmv=>by
   obtain ⟨v,vs,rfl,h1,h2⟩:=Zfg h
   have hgt:i ∉ keys (i + 1) ps:=fun hm=>by have:=(keys_ge ps (i + 1) i hm).1; omega
   have hgm:i ∉ mvsK (i + 1) ps:=fun hm=>by have:=(mvs_ge ps (i + 1) i hm).1; omega
   refine ⟨?_,match_ok ps (i + 1) vs _ h2 (fun j hj=>?_) hoff.tail (fun j hj=>?_)⟩
   · cases p with
     | val τ=>exact ⟨rfl,fun hm=>hgt ((ho i (Nat.le_refl _)).1 hm),fun hm=>hgm ((hmv i (Nat.le_refl _)).1 hm)⟩
     | rc τ=>exact ⟨rfl,fun hm=>hgt ((ho i (Nat.le_refl _)).1 hm),fun hm=>hgm ((hmv i (Nat.le_refl _)).1 hm)⟩
     | fn f cs=>exact ⟨rfl,fun hm=>hgt ((ho i (Nat.le_refl _)).1 hm),fun hm=>hgm ((hmv i (Nat.le_refl _)).1 hm)⟩
     | mv τ =>
       cases v with
       | val σ y =>
         obtain ⟨e,_⟩:=Zcb h1
         cases e
         exact ⟨rfl,(hmv i (Nat.le_refl _)).2 (by simp [mvsK])⟩
       | _=>cases h1
     | st τ =>
       cases v with
       | rc cs=>exact ⟨rfl,(ho i (Nat.le_refl _)).2 (by simp [keys])⟩
       | _=>cases h1
     | io τ =>
       cases v with
       | val σ y =>
         obtain ⟨e,_⟩:=Zcb h1
         cases e
         exact ⟨rfl,(ho i (Nat.le_refl _)).2 (by simp [keys])⟩
       | _=>cases h1
     | mx τ off σ =>
       cases v with
       | val ρ y =>
         obtain ⟨l,e1,e2,e3,e4⟩:=take_mx h1
         subst e1
         have e5:avOf (.mx ρ off σ) (.val ρ y) = .mx (Zds ρ y) off σ l:=by simp only [avOf,e3]
         rw [e5]
         refine ⟨⟨ρ,y,rfl,e2,rfl,e3⟩,(ho i (Nat.le_refl _)).2 (by simp [keys]),?_⟩
         rw [hoff i (Nat.le_refl _)]
         simp [offsK,look]
       | _=>cases h1
   · rw [ho j (by omega)]
     cases p with
     | val τ=>exact Iff.rfl
     | rc τ=>exact Iff.rfl
     | fn f cs=>exact Iff.rfl
     | st τ=>simp only [keys,List.mem_cons]; exact ⟨fun h=>h.resolve_left (by omega),.inr⟩
     | io τ=>simp only [keys,List.mem_cons]; exact ⟨fun h=>h.resolve_left (by omega),.inr⟩
     | mx τ off σ=>simp only [keys,List.mem_cons]; exact ⟨fun h=>h.resolve_left (by omega),.inr⟩
     | mv τ=>exact Iff.rfl
   · rw [hmv j (by omega)]
     cases p with
     | mv τ=>simp only [mvsK,List.mem_cons]; exact ⟨fun h=>h.resolve_left (by omega),.inr⟩
     | _=>exact Iff.rfl
theorem initT_val (i:Nat) (τ:Ty) (ps:List PT) (x:D (Zdt ((PT.val τ :: ps).map PT.ty))):Zfz i (.val τ :: ps) x = ((i,.val τ (Zez (τ:=τ) (ps.map PT.ty) x)) :: (Zfz (i + 1) ps (Zex (τ:=τ) (ps.map PT.ty) x)).1,(Zfz (i + 1) ps (Zex (τ:=τ) (ps.map PT.ty) x)).2):=by
 cases ps <;> rfl
theorem initT_st (i:Nat) (τ:Ty) (ps:List PT) (x:D (Zdt ((PT.st τ :: ps).map PT.ty))):Zfz i (.st τ :: ps) x = ((i,.ptr i 0) :: (Zfz (i + 1) ps (Zex (τ:=τ) (ps.map PT.ty) x)).1,(i,some (.cs (Zds τ (Zez (τ:=τ) (ps.map PT.ty) x)))) :: (Zfz (i + 1) ps (Zex (τ:=τ) (ps.map PT.ty) x)).2):=by
 cases ps <;> rfl
theorem initT_io (i:Nat) (τ:Ty) (ps:List PT) (x:D (Zdt ((PT.io τ :: ps).map PT.ty))):Zfz i (.io τ :: ps) x = ((i,.arr i) :: (Zfz (i + 1) ps (Zex (τ:=.sl τ) (ps.map PT.ty) x)).1,(i,some (.rows τ (Zez (τ:=.sl τ) (ps.map PT.ty) x))) :: (Zfz (i + 1) ps (Zex (τ:=.sl τ) (ps.map PT.ty) x)).2):=by
 cases ps <;> rfl
theorem initT_mv (i:Nat) (τ:Ty) (ps:List PT) (x:D (Zdt ((PT.mv τ :: ps).map PT.ty))):Zfz i (.mv τ :: ps) x = ((i,.arr i) :: (Zfz (i + 1) ps (Zex (τ:=.sl τ) (ps.map PT.ty) x)).1,(i,some (Zif τ (Zez (τ:=.sl τ) (ps.map PT.ty) x))) :: (Zfz (i + 1) ps (Zex (τ:=.sl τ) (ps.map PT.ty) x)).2):=by
 cases ps <;> rfl
theorem initT_rc (i:Nat) (τ:Ty) (ps:List PT) (x:D (Zdt ((PT.rc τ :: ps).map PT.ty))):Zfz i (.rc τ :: ps) x = ((i,.rc (Zds τ (Zez (τ:=τ) (ps.map PT.ty) x))) :: (Zfz (i + 1) ps (Zex (τ:=τ) (ps.map PT.ty) x)).1,(Zfz (i + 1) ps (Zex (τ:=τ) (ps.map PT.ty) x)).2):=by
 cases ps <;> rfl
theorem initT_fn (i:Nat) (f:Nat) (cs:List CT) (ps:List PT) (x:D (Zdt ((PT.fn f cs :: ps).map PT.ty))):Zfz i (.fn f cs :: ps) x = ((i,.fn f (capsV cs (Zez (τ:=Zdt (cs.map CT.ty)) (ps.map PT.ty) x))) :: (Zfz (i + 1) ps (Zex (τ:=Zdt (cs.map CT.ty)) (ps.map PT.ty) x)).1,(Zfz (i + 1) ps (Zex (τ:=Zdt (cs.map CT.ty)) (ps.map PT.ty) x)).2):=by
 cases ps <;> rfl
theorem initT_mx (i:Nat) (τ:Ty) (off:Nat) (σ:Ty) (ps:List PT) (x:D (Zdt ((PT.mx τ off σ :: ps).map PT.ty))) {l:List (D σ)} (hl:Zhl (Zds τ (Zez (τ:=τ) (ps.map PT.ty) x)) off σ = some l):Zfz i (.mx τ off σ :: ps) x = ((i,.agg ((Zds τ (Zez (τ:=τ) (ps.map PT.ty) x)).set off (.arr i))) :: (Zfz (i + 1) ps (Zex (τ:=τ) (ps.map PT.ty) x)).1,(i,some (.rows σ l)) :: (Zfz (i + 1) ps (Zex (τ:=τ) (ps.map PT.ty) x)).2):=by
 cases ps with
 | nil =>
   have hl:Zhl (Zds τ x) off σ = some l:=hl
   show (match Zhl (Zds τ x) off σ with
    | some l=>([(i,V.agg ((Zds τ x).set off (.arr i)))],[(i,some (Bx.rows σ l))])
    | none=>([],[])) = _
   rw [hl]; rfl
 | cons q r =>
   have hl:Zhl (Zds τ x.1) off σ = some l:=hl
   show (match Zfz (i + 1) (q :: r) x.2 with
    | (ts,m)=>match Zhl (Zds τ x.1) off σ with
      | some l=>((i,V.agg ((Zds τ x.1).set off (.arr i))) :: ts,(i,some (Bx.rows σ l)) :: m)
      | none=>(ts,m)) = _
   rw [hl]; rfl
theorem InH_nil {X:Nat -> Prop} (l:List Nat):In X μ [] w l:=⟨fun b _ τ r q ad hb=>(nomatch hb),fun b _ τ r q ad hb=>(nomatch hb)⟩
theorem cap_ok (h0:Mem G w0 Ob A B A noMu [] w) {μ0:Mu}:∀ (c:CT) (v:V) (y:D c.ty) (cv:Value),takeCap c v = some y -> R A B w noMu v cv -> R A B w μ0 (capV c y) cv
 | .val τ,v,y,cv,h,hr=>by
   cases v with
   | val σ x0 =>
     obtain ⟨e,rfl⟩:=Zcb h
     cases e
     exact Zgs (fun _ h=>h) (Zd3 _ _) rfl hr
   | _=>cases h
 | .rc τ,v,y,cv,h,hr=>by
   cases v with
   | rc cs =>
     have h1':(match asm [] τ cs with
      | some (x,[])=>some x
      | _=>none) = some y:=h
     split at h1'
     · rename_i x' hx'
       cases h1'
       simp only [R] at hr
       obtain ⟨ad,us,e1,e2,e3,e4,e5⟩:=hr
       obtain ⟨v1,v2,f1,f2,f3,_⟩:=asm_ok h0 (fun _ h=>h) τ e4 (InH_nil _) hx'
       have:v2 = []:=by cases v2 with
        | nil=>rfl
        | cons _ _=>simp [RL] at f3
       subst this
       rw [List.append_nil] at f1; subst f1
       simp only [capV,R]
       exact ⟨ad,us,e1,e2,e3,Zgr τ f2,e5⟩
     · cases h1'
   | _=>cases h
theorem caps_ok (h0:Mem G w0 Ob A B A noMu [] w) {μ0:Mu}:∀ (cs:List CT) (caps:List V) (y:D (Zdt (cs.map CT.ty))) (vs:List Value),takeCaps cs caps = some y -> RL A B w noMu caps vs -> RL A B w μ0 (capsV cs y) vs
 | [],caps,y,vs,h,hr=>by
   cases caps with
   | nil =>
     cases vs with
     | nil=>simp [capsV,RL]
     | cons _ _=>simp [RL] at hr
   | cons _ _=>cases h
 | [c],caps,y,vs,h,hr=>by
   cases caps with
   | nil=>cases h
   | cons v r =>
     cases r with
     | cons _ _=>cases h
     | nil =>
       cases vs with
       | nil=>simp [RL] at hr
       | cons cv vs =>
         simp only [RL] at hr
         have h:takeCap c v = some y:=h
         simp only [capsV,RL]
         cases vs with
         | cons _ _=>simp [RL] at hr
         | nil=>exact ⟨cap_ok h0 c v y cv h hr.1,trivial⟩
 | c :: d :: r,caps,y,vs,h,hr=>by
   cases caps with
   | nil=>cases h
   | cons v caps =>
     have h':(match takeCap c v with
      | some x=>match takeCaps (d :: r) caps with
        | some y=>some ((x,y):D (Zdt ((c :: d :: r).map CT.ty)))
        | none=>none
      | none=>none) = some y:=h
     split at h'
     case h_2=>cases h'
     rename_i a ha
     split at h'
     case h_2=>cases h'
     rename_i b hb
     have h':=Option.some.inj h'
     subst h'
     cases vs with
     | nil=>simp [RL] at hr
     | cons cv vs =>
       simp only [RL] at hr
       simp only [capsV,RL]
       exact ⟨cap_ok h0 c v a cv ha hr.1,caps_ok h0 (d :: r) caps b vs hb hr.2⟩
theorem init_ok (h0:Mem G w0 Ob A B A noMu [] w) {nb:Nat -> Nat -> Prop} {μ0:Mu} {o:List Nat} (hμ:∀ j q,j ∈ o -> io j = some q -> μ0 j = some (some q)) :
  ∀ (ps:List PT) (i:Nat) (args:List V) (x:D (Zdt (ps.map PT.ty))) (vs:List Value),Zh0 ps args = some x -> (∀ j,KM i ps j -> j ∈ o) -> ArgR A B w io nb i (avsOf ps args) vs ->
    (∀ t v,look (Zfz i ps x).1 t = some v -> i <= t /\ ∃ cv,vs[t - i]? = some cv /\ R A B w μ0 v cv) /\
    (∀ b bx,Hp.at (Zfz i ps x).2 b = some bx -> KM i ps b /\ bx.isFz = false /\ ∃ q,io b = some q /\ Zd2 A B w μ0 bx q /\ Nest w q (nb b) bx /\ (bx.plain = true ∨ b ∈ mvsK i ps)) /\ vs.length = ps.length /\ ∀ j,KM i ps j -> ∃ q,io j = some q
 | [],i,args,x,vs,h,_,ha=>by
   cases args with
   | cons v vs=>cases h
   | nil =>
     cases vs with
     | cons _ _=>exact ha.elim
     | nil=>exact ⟨fun t v e=>(by cases e),fun b bx e=>(by cases e),rfl,fun j hj=>(by simp [KM,keys,mvsK] at hj)⟩
 | p :: ps,i,args,x,vs,h,ho,ha=>by
   obtain ⟨v,args',rfl,h1,h2⟩:=Zfg h
   obtain ⟨z,hz⟩:∃ z,z = Zex (τ:=p.ty) (ps.map PT.ty) x:=⟨_,rfl⟩
   rw [← hz] at h2
   cases vs with
   | nil=>exact ha.elim
   | cons cv vs =>
     simp only [avsOf,ArgR] at ha
     obtain ⟨ha1,ha2⟩:=ha
     have ho':∀ j,KM (i + 1) ps j -> j ∈ o:=fun j hj=>ho j hj.tail
     have i2':∀ b bx,Hp.at (Zfz (i + 1) ps z).2 b = some bx -> KM i (p :: ps) b /\ bx.isFz = false /\ ∃ q,io b = some q /\ Zd2 A B w μ0 bx q /\ Nest w q (nb b) bx /\ (bx.plain = true ∨ b ∈ mvsK i (p :: ps)):=fun b bx e=>by
      obtain ⟨k1,k2,q,k3,k4,k5,k6⟩:=(init_ok h0 hμ ps (i + 1) args' z vs h2 ho' ha2).2.1 b bx e
      exact ⟨k1.tail,k2,q,k3,k4,k5,k6.imp (fun h=>h) mvsK_tail⟩
     obtain ⟨i1,i2,i3,i4⟩:=init_ok h0 hμ ps (i + 1) args' z vs h2 ho' ha2
     have tmp:∀ u,R A B w μ0 u cv -> ∀ t v,look ((i,u) :: (Zfz (i + 1) ps z).1) t = some v -> i <= t /\ ∃ cv',(cv :: vs)[t - i]? = some cv' /\ R A B w μ0 v cv':=fun u hu t v e=>by
      rw [Zen] at e
      split at e
      · rename_i e'; subst e'; cases e; exact ⟨Nat.le_refl _,cv,by simp,hu⟩
      · obtain ⟨k1,cv',k2,k3⟩:=i1 t v e
        exact ⟨by omega,cv',by rw [show t - i = (t - (i + 1)) + 1 by omega]; simpa using k2,k3⟩
     have box:∀ (bx:Bx) q,KM i (p :: ps) i -> bx.isFz = false -> io i = some q -> Zd2 A B w μ0 bx q -> Nest w q (nb i) bx -> (bx.plain = true ∨ i ∈ mvsK i (p :: ps)) ->
       ∀ b bx',Hp.at ((i,some bx) :: (Zfz (i + 1) ps z).2) b = some bx' -> KM i (p :: ps) b /\ bx'.isFz = false /\ ∃ q,io b = some q /\ Zd2 A B w μ0 bx' q /\ Nest w q (nb b) bx' /\ (bx'.plain = true ∨ b ∈ mvsK i (p :: ps)):=fun bx q hi hz hq hb hne hpm b bx' e=>by
      rw [Hp.at_cons] at e
      split at e
      · rename_i e'; subst e'; cases e; exact ⟨hi,hz,q,hq,hb,hne,hpm⟩
      · exact i2' b bx' e
     have i4':∀ j,KM i (p :: ps) j -> (j ∈ keys i (p :: ps) -> j ∈ keys (i + 1) ps) /\ (j ∈ mvsK i (p :: ps) -> j ∈ mvsK (i + 1) ps) -> ∃ q,io j = some q:=fun j hj hk=>by
      rcases hj with hj | hj
      · exact i4 j (.inl (hk.1 hj))
      · exact i4 j (.inr (hk.2 hj))
     have i4'':∀ j,j ≠ i -> KM i (p :: ps) j -> ∃ q,io j = some q:=fun j hne hj=>by
      refine i4 j ?_
      rcases hj with hj | hj
      · left; cases p <;> first | exact hj | exact (List.mem_cons.1 hj).resolve_left hne
      · right; cases p <;> first | exact hj | exact (List.mem_cons.1 hj).resolve_left hne
     cases p with
     | val τ =>
       rw [initT_val,show Zex (τ:=τ) (ps.map PT.ty) x = z from hz.symm]
       have h1:Zg3 (.val τ) v = some (Zez (τ:=τ) (ps.map PT.ty) x):=h1
       generalize Zez (τ:=τ) (ps.map PT.ty) x = y at h1
       have ha1:R A B w noMu v cv:=by
        have e:avOf (.val τ) v = .fr v:=rfl
        rw [e] at ha1; exact ha1
       cases v with
       | val σ x0 =>
         obtain ⟨e,rfl⟩:=Zcb h1
         cases e
         exact ⟨tmp _ (Zgs (fun _ h=>h) (Zd3 _ _) rfl ha1),i2',by simp [i3],fun j hj=>i4' j hj (by simp [keys,mvsK])⟩
       | _=>cases h1
     | rc τ =>
       rw [initT_rc,show Zex (τ:=τ) (ps.map PT.ty) x = z from hz.symm]
       have h1:Zg3 (.rc τ) v = some (Zez (τ:=τ) (ps.map PT.ty) x):=h1
       generalize Zez (τ:=τ) (ps.map PT.ty) x = y at h1
       have ha1:R A B w noMu v cv:=by
        have e:avOf (.rc τ) v = .fr v:=rfl
        rw [e] at ha1; exact ha1
       cases v with
       | rc cs =>
         have h1':(match asm [] τ cs with
          | some (x,[])=>some x
          | _=>none) = some y:=h1
         split at h1'
         · rename_i x' hx'
           cases h1'
           simp only [R] at ha1
           obtain ⟨ad,us,e1,e2,e3,e4,e5⟩:=ha1
           obtain ⟨v1,v2,f1,f2,f3,_⟩:=asm_ok h0 (fun _ h=>h) τ e4 (InH_nil _) hx'
           have:v2 = []:=by cases v2 with
            | nil=>rfl
            | cons _ _=>simp [RL] at f3
           subst this
           rw [List.append_nil] at f1; subst f1
           refine ⟨tmp _ ?_,i2',by simp [i3],fun j hj=>i4' j hj (by simp [keys,mvsK])⟩
           simp only [R]
           exact ⟨ad,us,e1,e2,e3,Zgr τ f2,e5⟩
         · cases h1'
       | _=>cases h1
     | fn f cs =>
       rw [initT_fn,show Zex (τ:=Zdt (cs.map CT.ty)) (ps.map PT.ty) x = z from hz.symm]
       have h1:Zg3 (.fn f cs) v = some (Zez (τ:=Zdt (cs.map CT.ty)) (ps.map PT.ty) x):=h1
       generalize Zez (τ:=Zdt (cs.map CT.ty)) (ps.map PT.ty) x = y at h1
       have ha1:R A B w noMu v cv:=by
        have e:avOf (.fn f cs) v = .fr v:=rfl
        rw [e] at ha1; exact ha1
       cases v with
       | fn g caps =>
         have h1':(if f = g then takeCaps cs caps else none) = some y:=h1
         split at h1'
         case isFalse=>cases h1'
         rename_i e; subst e
         simp only [R] at ha1
         obtain ⟨captured,e1,e2⟩:=ha1
         refine ⟨tmp _ ?_,i2',by simp [i3],fun j hj=>i4' j hj (by simp [keys,mvsK])⟩
         simp only [R]
         exact ⟨captured,e1,caps_ok h0 cs caps y captured.toList h1' e2⟩
       | _=>cases h1
     | st τ =>
       rw [initT_st,show Zex (τ:=τ) (ps.map PT.ty) x = z from hz.symm]
       have h1:Zg3 (.st τ) v = some (Zez (τ:=τ) (ps.map PT.ty) x):=h1
       generalize Zez (τ:=τ) (ps.map PT.ty) x = y at h1
       cases v with
       | rc cs =>
         have ha1:∃ q ad,io i = some q /\ q.a = some ad /\ cv = .pointer (some ⟨ad.block,ad.off,none⟩) /\ Zd2 A B w noMu (.cs cs) q:=ha1
         obtain ⟨q,ad,e1,e2,e3,ad',us,e4,e5,e6,e7,e8⟩:=ha1
         rw [e2] at e4; cases e4
         have h1':(match asm [] τ cs with
          | some (x,[])=>some x
          | _=>none) = some y:=h1
         split at h1'
         · rename_i x' hx'
           cases h1'
           obtain ⟨v1,v2,f1,f2,f3,_⟩:=asm_ok h0 (fun _ h=>h) τ e6 (InH_nil _) hx'
           have:v2 = []:=by cases v2 with
            | nil=>rfl
            | cons _ _=>simp [RL] at f3
           subst this
           rw [List.append_nil] at f1; subst f1
           have k:=Zgr (B:=B) (μ:=μ0) τ f2
           have hi:=ho i (.inl (by simp [keys]))
           refine ⟨tmp _ ?_,box (.cs (Zds τ y)) q (.inl (by simp [keys])) rfl e1 ⟨ad,us,e2,e5,k,e7,by rw [RL.len k,← RL.len e6]; exact e8⟩ trivial (.inl rfl),by simp [i3],fun j hj=>?_⟩
           · simp only [R]
             exact ⟨some q,hμ i q hi e1,_,e3,fun q' e=>by cases e; exact ⟨ad,e2,by simp⟩⟩
           · by_cases hj0:j = i
             · subst hj0; exact ⟨q,e1⟩
             · exact i4'' j hj0 hj
         · cases h1'
       | _=>cases h1
     | io τ =>
       rw [initT_io,show Zex (τ:=.sl τ) (ps.map PT.ty) x = z from hz.symm]
       have h1:Zg3 (.io τ) v = some (Zez (τ:=.sl τ) (ps.map PT.ty) x):=h1
       generalize Zez (τ:=.sl τ) (ps.map PT.ty) x = y at h1
       cases v with
       | val σ x0 =>
         obtain ⟨e,rfl⟩:=Zcb h1
         cases e
         have ha1:∃ q,io i = some q /\ cv = .slice q.a q.len q.cap /\ Zd2 A B w noMu (.rows τ x0) q:=ha1
         obtain ⟨q,e1,e2,e3⟩:=ha1
         have hi:=ho i (.inl (by simp [keys]))
         refine ⟨tmp _ ?_,box (.rows τ x0) q (.inl (by simp [keys])) rfl e1 e3 trivial (.inl rfl),by simp [i3],fun j hj=>?_⟩
         · simp only [R]
           exact ⟨some q,hμ i q hi e1,_,_,_,e2,fun q' e=>by cases e; exact ⟨rfl,rfl,rfl⟩⟩
         · by_cases hj0:j = i
           · subst hj0; exact ⟨q,e1⟩
           · exact i4'' j hj0 hj
       | _=>cases h1
     | mv τ =>
       rw [initT_mv,show Zex (τ:=.sl τ) (ps.map PT.ty) x = z from hz.symm]
       have h1:Zg3 (.mv τ) v = some (Zez (τ:=.sl τ) (ps.map PT.ty) x):=h1
       generalize Zez (τ:=.sl τ) (ps.map PT.ty) x = y at h1
       cases v with
       | val σ x0 =>
         obtain ⟨e,rfl⟩:=Zcb h1
         cases e
         have ha1:∃ q,io i = some q /\ cv = .slice q.a q.len q.cap /\ Zd2 A B w noMu (.dp τ x0) q /\ Nest w q (nb i) (.dp τ x0):=ha1
         obtain ⟨q,e1,e2,e3,e4⟩:=ha1
         have hi:=ho i (.inr (by simp [mvsK]))
         have hbx:∃ bx,bx = Zif τ x0 /\ bx.isFz = false /\ Zd2 A B w μ0 bx q /\ Nest w q (nb i) bx:=by
          refine ⟨_,rfl,ownBx_fz,?_⟩
          unfold Zif
          split
          · exact ⟨e3,e4⟩
          · rename_i hs
            obtain ⟨k1,k2,k3,k4,k5⟩:=e3
            refine ⟨⟨k1,k2,k3,k4,fun ad ha=>⟨(k5 ad ha).1,fun j u hj=>?_,(k5 ad ha).2⟩⟩,trivial⟩
            obtain ⟨T,t1,t2,t3⟩:=e4 ad ha
            obtain ⟨c,c1,c2⟩:=t3 j u trivial hj
            exact ⟨c,c1.RC_any (by simpa using hs),c2⟩
         obtain ⟨bx,hbx0,hbx1,hbx2,hbx3⟩:=hbx
         rw [← hbx0]
         refine ⟨tmp _ ?_,box bx q (.inr (by simp [mvsK])) hbx1 e1 hbx2 hbx3 (.inr (by simp [mvsK])),by simp [i3],fun j hj=>?_⟩
         · simp only [R]
           exact ⟨some q,hμ i q hi e1,_,_,_,e2,fun q' e=>by cases e; exact ⟨rfl,rfl,rfl⟩⟩
         · by_cases hj0:j = i
           · subst hj0; exact ⟨q,e1⟩
           · exact i4'' j hj0 hj
       | _=>cases h1
     | mx τ off σ =>
       have h1:Zg3 (.mx τ off σ) v = some (Zez (τ:=τ) (ps.map PT.ty) x):=h1
       cases v with
       | val ρ x0 =>
         obtain ⟨l,e1,e2,e3,e4⟩:=take_mx h1
         subst e1
         have e4:=eq_of_heq e4
         rw [initT_mx i ρ off σ ps x (l:=l) (by rw [e4]; exact e3),show Zex (τ:=ρ) (ps.map PT.ty) x = z from hz.symm,e4]
         have e5:avOf (.mx ρ off σ) (.val ρ x0) = .mx (Zds ρ x0) off σ l:=by simp only [avOf,e3]
         rw [e5] at ha1
         obtain ⟨q,us,k1,rfl,k3,k4,k5⟩:=ha1
         have hi:=ho i (.inl (by simp [keys]))
         refine ⟨tmp _ ?_,box (.rows σ l) q (.inl (by simp [keys])) rfl k1 k5 trivial (.inl rfl),by simp [i3],fun j hj=>?_⟩
         · simp only [R]
           refine ⟨us,rfl,RL_swap (fun _ h=>h) (Zd3 _ _) k3 k4 ?_ (all_set (Zh7 _ _) rfl)⟩
           simp only [R]
           exact ⟨some q,hμ i q hi k1,_,_,_,rfl,fun q' e=>by cases e; exact ⟨rfl,rfl,rfl⟩⟩
         · by_cases hj0:j = i
           · subst hj0; exact ⟨q,k1⟩
           · exact i4'' j hj0 hj
       | _=>cases h1
end
end Go.E
namespace Go.E
open Go Go.RowKit
section
variable {P:Program} {E:Env} {G:List (Nat × List V)} {w0:World} {Ob A B F F':Nat -> Prop} {μ:Mu} {m:Hp} {w:World} {s:St} {a:Act} {v:V} {io:Nat -> Option MB} {nb:Nat -> Nat -> Prop}
theorem nodupB_ok:∀ {l:List Nat},nodupB l = true -> l.Nodup
 | [],_=>List.nodup_nil
 | i :: r,h=>by
   simp only [nodupB,Bool.and_eq_true,Bool.not_eq_true'] at h
   exact List.nodup_cons.2 ⟨by simpa using h.1,nodupB_ok h.2⟩
theorem Owns.get:∀ {is:List (Option Nat)} {qs:List MB} {bs:List Bx},Owns F' B w μ m is qs bs -> is.length = bs.length /\ qs.length = bs.length /\
  ∀ (i:Nat) x,bs[i]? = some x -> ∃ o q,is[i]? = some o /\ qs[i]? = some q /\ (∀ b,o = some b -> ∃ y,m.at b = some y /\ y.isFz = false /\ μ b = some (some q)) /\ (o = none -> q.a = none) /\ Zd2 F' B w noMu x q /\ (x.plain = true ∨ ∃ b,o = some b /\ m.at b = some x)
 | [],[],[],_=>⟨rfl,rfl,fun i x h=>by simp at h⟩
 | i :: is,q :: qs,b :: bs,h=>by
   obtain ⟨h1,h2⟩:=h
   obtain ⟨k1,k2,k3⟩:=Owns.get h2
   refine ⟨by simp [k1],by simp [k2],fun j x hj=>?_⟩
   cases j with
   | zero=>simp at hj; subst hj; exact ⟨i,q,by simp,by simp,h1.1,h1.2.1,h1.2.2.1,h1.2.2.2.2⟩
   | succ j=>simp at hj; obtain ⟨o,p,e1,e2,e3⟩:=k3 j x hj; exact ⟨o,p,by simpa using e1,by simpa using e2,e3⟩
 | [],[],_ :: _,h=>h.elim
 | [],_ :: _,_,h=>h.elim
 | _ :: _,[],_,h=>h.elim
 | _ :: _,_ :: _,[],h=>h.elim
theorem Zim:∀ {l:List (Option Nat)},(l.filterMap id).Nodup -> ∀ (i j b:Nat),l[i]? = some (some b) -> l[j]? = some (some b) -> i = j
 | [],_,i,j,b,h,_=>by simp at h
 | o :: l,hn,i,j,b,hi,hj=>by
   have hmem:∀ k,l[k]? = some (some b) -> b ∈ l.filterMap id:=fun k hk=>List.mem_filterMap.2 ⟨some b,List.mem_of_getElem? hk,rfl⟩
   have hn':(l.filterMap id).Nodup:=by
    cases o with
    | none=>simpa using hn
    | some c=>simp at hn; exact hn.2
   cases i with
   | zero =>
     simp at hi; subst hi
     cases j with
     | zero=>rfl
     | succ j =>
       simp at hj
       simp at hn
       exact absurd (List.mem_of_getElem? hj) hn.1
   | succ i =>
     simp at hi
     cases j with
     | zero =>
       simp at hj; subst hj
       simp at hn
       exact absurd (List.mem_of_getElem? hi) hn.1
     | succ j =>
       simp at hj
       rw [Zim hn' i j b hi hj]
theorem mem_filterMap_id {l:List (Option Nat)} {i b:Nat} (h:l[i]? = some (some b)):b ∈ l.filterMap id:=List.mem_filterMap.2 ⟨some b,List.mem_of_getElem? h,rfl⟩
theorem ret_ok {N base:Nat} {μ0:Mu} {ps:List PT} {ros:List (ResultVar × RO)} (hE:EnvC P E) (h:Rl E w0 (IOn io nb) A B N μ0 base F μ s a w) (hio:∀ b,IOn io nb b -> ¬ A b /\ ¬ B b /\ b < w0.heap.size)
  (hμ0:∀ j ∈ keys 0 ps,∃ q,io j = some q /\ μ0 j = some (some q)) (hdom:∀ j q,io j = some q -> KM 0 ps j) (hnb:∀ j b,nb j b -> j ∈ mvsK 0 ps) (hA:∀ b,A b -> b < w0.heap.size)
  {fn:Func} (hres:fn.results = (ros.map (·.1)).toArray) {y:D (Zdt (ros.map (·.2.ty) ++ Zdg ps))} (hok:retOk E s ps ros = true) (hy:Zf8 E s ps ros = some y) :
  ∃ cv,(results fn a.tmps).run P w = .ok cv w /\ ∃ F' μr,ResR (E.G = []) A B w0 io nb (Zfo ps ros y) w cv F' μr:=by
 have hp:=h.pre hE
 have hM:=h.mem
 simp only [retOk,Bool.and_eq_true] at hok
 obtain ⟨hnd,hfz⟩:=hok
 have hnd:=nodupB_ok hnd
 rw [List.all_eq_true] at hfz
 let fzL:=ros.flatMap (fun p=>valArr s.m (rvV E s p.1) p.2) ++ (keys 0 ps).flatMap (Zei s.m)
 obtain ⟨ν,hd⟩:=hM.deep
 let F':Nat -> Prop:=fun b=>F b ∨ ∃ c ∈ fzL,∃ x q,s.m.at c = some x /\ x.isFz = false /\ μ c = some (some q) /\ ((∃ ad,q.a = some ad /\ b = ad.block) ∨ ν c b)
 have hF:∀ b,F b -> F' b:=fun b=>.inl
 have hin:∀ l:List Nat,(∀ c ∈ l,c ∈ fzL) -> In F' μ s.m w l:=fun l hl =>
  ⟨fun c hc τ r q ad h1 h2 h3=>.inr ⟨c,hl c hc,_,q,h1,rfl,h2,.inl ⟨ad,h3,rfl⟩⟩,fun c hc τ r q ad h1 h2 h3=>⟨.inr ⟨c,hl c hc,_,q,h1,rfl,h2,.inl ⟨ad,h3,rfl⟩⟩,by
   have hn:Nest w q (ν c) (.dp τ r):=hd.nest c _ q h1 h2
   exact (hn ad h3).rows (fun k hk=>.inr ⟨c,hl c hc,_,q,h1,rfl,h2,.inr hk⟩)⟩⟩
 obtain ⟨cvs,ids,qs,rest,i1,i2,i3,i4,i5,i6,i7,i8⟩:=parts_ok hp h.tmps hF ps ros 0 y hy (hin _ (fun c hc=>List.mem_append_left _ hc))
 obtain ⟨o1,o2,o3⟩:=outs_ok hM hF ps 0 rest i4 (hin _ (fun c hc=>List.mem_append_right _ hc))
 obtain ⟨g1,g2,g3⟩:=i3.get
 have hrun:=results_run hres i1
 refine ⟨finV cvs,hrun,F',fun i=>(qs[i]?).map some,?_⟩
 have hkey:∀ j ∈ keys 0 ps,∃ q y,io j = some q /\ μ j = some (some q) /\ s.m.at j = some y /\ y.isFz = false:=fun j hj=>by
  obtain ⟨q,e1,e2⟩:=hμ0 j hj
  obtain ⟨y,e3,e4⟩:=o2 j hj
  obtain ⟨q',e5,_⟩:=hM.box j y e3
  obtain ⟨o',e6,e7⟩:=h.keep j (some q) e2
  rw [e5] at e6
  cases e6
  rcases e7 with e7 | e7
  · cases e7
  · cases e7; exact ⟨q,y,e1,e5,e3,e4⟩
 have hIO:∀ b,IOn io nb b -> (∃ j q y ad,j ∈ keys 0 ps /\ μ j = some (some q) /\ s.m.at j = some y /\ y.isFz = false /\ q.a = some ad /\ b = ad.block) ∨ MVb (mvsK 0 ps) io nb b:=by
  rintro b (⟨j,q,ad,e1,e2,e3⟩ | ⟨j,hj⟩)
  · rcases hdom j q e1 with hj | hj
    · obtain ⟨q',y,k1,k2,k3,k4⟩:=hkey j hj
      rw [e1] at k1; cases k1
      exact .inl ⟨j,q,y,ad,hj,k2,k3,k4,e2,e3⟩
    · exact .inr ⟨j,hj,.inl ⟨q,ad,e1,e2,e3⟩⟩
  · exact .inr ⟨j,hnb j b hj,.inr hj⟩
 have notF:∀ j y q ad,s.m.at j = some y -> y.isFz = false -> μ j = some (some q) -> q.a = some ad -> j ∉ fzL -> ¬ F' ad.block:=by
  rintro j y q ad e1 e2 e3 e4 e5 (hf | ⟨c,hc,x,q',f1,fz,f2,⟨ad',f3,f4⟩ | f3⟩)
  · exact (hM.own j y q ad e1 e2 e3 e4).1 hf
  · have:=hM.inj j c y _ q q' ad ad' e1 f1 e2 fz e3 f2 e4 f3 f4
    subst this; exact e5 hc
  · exact hd.apart c x _ j y q ad f1 f3 e1 e2 e3 e4 rfl
 have hdis:∀ c ∈ fzL,c ∉ ros.filterMap (fun p=>ownId (rvV E s p.1) p.2) ++ keys 0 ps:=fun c hc=>by simpa using hfz c hc
 have hnd1:(ids.filterMap id).Nodup:=by rw [i2]; exact (List.nodup_append.1 hnd).1
 have hown:∀ i b,ids[i]? = some (some b) -> b ∈ ros.filterMap (fun p=>ownId (rvV E s p.1) p.2):=fun i b hi=>by rw [← i2]; exact mem_filterMap_id hi
 have newB:∀ i b y q ad,ids[i]? = some (some b) -> s.m.at b = some y -> y.isFz = false -> μ b = some (some q) -> q.a = some ad -> ¬ F' ad.block /\ (w0.heap.size <= ad.block ∨ MVb (mvsK 0 ps) io nb ad.block) /\ ad.block < w.heap.size:=fun i b y q ad e1 e2 e3 e4 e5=>by
  obtain ⟨_,_,k3,k4⟩:=hM.own b y q ad e2 e3 e4 e5
  have hb:=hown i b e1
  refine ⟨notF b y q ad e2 e3 e4 e5 (fun hc=>hdis b hc (List.mem_append_left _ hb)),?_,k3⟩
  rcases k4 with k4 | k4
  · exact .inl k4
  · rcases hIO _ k4 with ⟨j,q',y',ad',j1,j2,j3,j4,j5,j6⟩ | h
    · have:=hM.inj b j y y' q q' ad ad' e2 j3 e3 j4 e4 j2 e5 j5 j6
      subst this
      exact absurd j1 ((List.nodup_append.1 hnd).2.2 b hb b · rfl)
    · exact .inr h
 have res:∀ vs bs os,Zb1 ps ros y 0 = (vs,bs,os) -> (Zfo ps ros y).bs = bs /\ (Zfo ps ros y).outs = os /\ (Zfo ps ros y).mvs = mvsK 0 ps /\ ((∃ v,vs = [v] /\ (Zfo ps ros y).v = v) ∨ ((∀ v,vs ≠ [v]) /\ (Zfo ps ros y).v = .tup vs)):=fun vs bs os e=>by
  unfold Zfo
  rw [e]
  match vs with
  | []=>exact ⟨rfl,rfl,rfl,.inr ⟨by simp,rfl⟩⟩
  | [v]=>exact ⟨rfl,rfl,rfl,.inl ⟨v,rfl,rfl⟩⟩
  | _ :: _ :: _=>exact ⟨rfl,rfl,rfl,.inr ⟨by simp,rfl⟩⟩
 obtain ⟨r1,r2,rm,r3⟩:=res _ _ _ rfl
 have hvals:=i8 (fun i=>(qs[i]?).map some) (fun j q hj=>by simp [hj])
 constructor
 · exact hM.ext
 · rw [rm]
   rintro b (hf | ⟨c,hc,x,q,f1,fz,f2,⟨ad,f3,rfl⟩ | f3⟩)
   · obtain ⟨k1,k2⟩:=hM.fz b hf
     rcases k2 with k2 | k2 | k2
     · exact .inl k2
     · exact .inr (.inl ⟨k2,k1⟩)
     · rcases hIO _ k2 with ⟨j,q',y',ad',j1,j2,j3,j4,j5,rfl⟩ | h
       · exact absurd hf (hM.own j y' q' ad' j3 j4 j2 j5).1
       · exact .inr (.inr h)
   · obtain ⟨_,_,k3,k4⟩:=hM.own c _ q ad f1 fz f2 f3
     rcases k4 with k4 | k4
     · exact .inr (.inl ⟨k4,k3⟩)
     · rcases hIO _ k4 with ⟨j,q',y',ad',j1,j2,j3,j4,j5,j6⟩ | h
       · have:=hM.inj c j _ y' q q' ad ad' f1 j3 fz j4 f2 j2 f3 j5 j6
         subst this
         exact absurd (List.mem_append_right _ j1) (hdis c hc)
       · exact .inr (.inr h)
   · obtain ⟨_,_,k3,k4⟩:=hd.own c _ b f1 f3
     rcases k4 with k4 | k4
     · exact .inr (.inl ⟨k4,k3⟩)
     · rcases hIO _ k4 with ⟨j,q',y',ad',j1,j2,j3,j4,j5,j6⟩ | h
       · exact absurd j6.symm (hd.apart c x b j y' q' ad' f1 f3 j3 j4 j2 j5)
       · exact .inr (.inr h)
 · rcases r3 with ⟨v,e1,e2⟩ | ⟨e1,e2⟩
   · rw [e2]
     rw [e1] at hvals
     cases cvs with
     | nil=>simp [RL] at hvals
     | cons cv cvs =>
       simp only [RL] at hvals
       cases cvs with
       | nil=>exact hvals.1
       | cons _ _=>simp [RL] at hvals
   · rw [e2]
     have hl:=RL.len hvals
     simp only [R]
     cases cvs with
     | nil=>exact ⟨_,rfl,by simpa using hvals⟩
     | cons cv cvs =>
       cases cvs with
       | nil =>
         simp at hl
         obtain ⟨v,hv⟩:=List.length_eq_one_iff.1 hl
         exact absurd hv (e1 v)
       | cons cv2 cvs=>exact ⟨_,rfl,by simpa using hvals⟩
 · intro i x hx
   rw [r1] at hx
   obtain ⟨o,q,k1,k2,k3,k4,k5,_⟩:=g3 i x hx
   rw [rm]
   refine ⟨q,by simp [k2],k5,fun ad ha=>?_⟩
   cases o with
   | none=>rw [k4 rfl] at ha; cases ha
   | some b =>
     obtain ⟨y',e1,e2,e3⟩:=k3 b rfl
     exact newB i b y' q ad k1 e1 e2 e3 ha
 · intro i hi
   rw [r1,← g2] at hi
   simp [List.getElem?_eq_none hi]
 · intro i j q q' ad ad' hi hj hq hq' ha ha' he
   rw [r1] at hi hj
   obtain ⟨o,p,k1,k2,k3,k4,k5,_⟩:=g3 i _ (List.getElem?_eq_getElem hi)
   obtain ⟨o',p',l1,l2,l3,l4,l5,_⟩:=g3 j _ (List.getElem?_eq_getElem hj)
   simp only [k2,Option.map_some,Option.some.injEq] at hq
   simp only [l2,Option.map_some,Option.some.injEq] at hq'
   subst hq; subst hq'
   cases o with
   | none=>rw [k4 rfl] at ha; cases ha
   | some b =>
     cases o' with
     | none=>rw [l4 rfl] at ha'; cases ha'
     | some b' =>
       obtain ⟨y1,e1,e2,e3⟩:=k3 b rfl
       obtain ⟨y2,f1,f2,f3⟩:=l3 b' rfl
       have:=hM.inj b b' y1 y2 p p' ad ad' e1 f1 e2 f2 e3 f3 ha ha' he
       subst this
       exact Zim hnd1 i j b k1 l1
 · intro i x hx
   rw [r2,i5] at hx
   obtain ⟨k1,q,k2,k3⟩:=o1 i x hx
   obtain ⟨q',y',e1,e2,_⟩:=hkey i k1
   rw [k2] at e2; cases e2
   exact ⟨q,e1,k3⟩
 · intro b hb hm
   rw [rm] at hm
   rcases hIO b (.inl hb) with ⟨j,q,y',ad,j1,j2,j3,j4,j5,rfl⟩ | h
   · exact notF j y' q ad j3 j4 j2 j5 (fun hc=>hdis j hc (List.mem_append_right _ j1))
   · exact absurd h hm
 · rw [rm,r1]
   refine ⟨fun i c=>∃ b x,ids[i]? = some (some b) /\ s.m.at b = some x /\ ν b c,fun i x q hx hq=>?_,fun i c hi ⟨b,x,e1,e2,e3⟩=>?_,fun i j c hi hj ⟨b,x,e1,e2,e3⟩ ⟨b',x',f1,f2,f3⟩=>?_⟩
   · obtain ⟨o,p,k1,k2,k3,k4,k5,k6⟩:=g3 i x hx
     rcases k6 with k6 | ⟨b,rfl,hb⟩
     · exact Ze4 k6 _ _ _
     · obtain ⟨y',e1,e2,e3⟩:=k3 b rfl
       simp only [k2,Option.map_some,Option.some.injEq] at hq
       subst hq
       have e:(fun c=>∃ b x,ids[i]? = some (some b) /\ s.m.at b = some x /\ ν b c) = ν b:=by
        funext c
        refine propext ⟨fun ⟨b',x',h1,h2,h3⟩=>?_,fun h=>⟨b,_,k1,hb,h⟩⟩
        rw [k1] at h1; cases h1; exact h3
       show Nest w p (fun c=>∃ b x,ids[i]? = some (some b) /\ s.m.at b = some x /\ ν b c) x
       rw [e]
       exact hd.nest b _ p hb e3
   · obtain ⟨k1,k2,k3,k4⟩:=hd.own b x c e2 e3
     have hb:=hown i b e1
     refine ⟨?_,?_,k3,fun j q ad hq ha=>?_⟩
     · rintro (hf | ⟨c',hc',x',q',g1,gz,g2,⟨ad',g3',g4⟩ | g3'⟩)
       · exact k1 hf
       · exact hd.apart b x c c' x' q' ad' e2 e3 g1 gz g2 g3' g4.symm
       · have:=hd.inj b c' x x' c e2 g1 e3 g3'
         subst this
         exact hdis b hc' (List.mem_append_left _ hb)
     · rcases k4 with k4 | k4
       · exact .inl k4
       · rcases hIO _ k4 with ⟨j,q',y',ad',j1,j2,j3,j4,j5,j6⟩ | h
         · exact absurd j6.symm (hd.apart b x c j y' q' ad' e2 e3 j3 j4 j2 j5)
         · exact .inr h
     · cases hqs:qs[j]? with
       | none=>rw [hqs] at hq; cases hq
       | some q' =>
         rw [hqs] at hq
         simp only [Option.map_some,Option.some.injEq] at hq
         subst hq
         have hj:j < qs.length:=(List.getElem?_eq_some_iff.1 hqs).1
         obtain ⟨o,p,l1,l2,l3,l4,l5,_⟩:=g3 j _ (List.getElem?_eq_getElem (by rw [← g2]; exact hj))
         rw [hqs] at l2; cases l2
         cases o with
         | none=>rw [l4 rfl] at ha; cases ha
         | some b' =>
           obtain ⟨y',m1,m2,m3⟩:=l3 b' rfl
           exact hd.apart b x c b' y' _ ad e2 e3 m1 m2 m3 ha
   · have:=hd.inj b b' x x' c e2 f2 e3 f3
     subst this
     exact Zim hnd1 i j b e1 f1
end
end Go.E
namespace Go.E
open Go Go.RowKit
section
variable {P:Program} {E:Env}
theorem initS_get {ps:List PT} {x:D (Zdt (ps.map PT.ty))} (t:Nat):(initS ps x).get t = match look (Zfz 0 ps x).1 t with | some v=>v | none=>.undef:=rfl
theorem initS_m {ps:List PT} {x:D (Zdt (ps.map PT.ty))}:(initS ps x).m = (Zfz 0 ps x).2:=rfl
theorem initS_n {ps:List PT} {x:D (Zdt (ps.map PT.ty))}:(initS ps x).n = ps.length:=rfl
structure FnAt (P:Program) (g:Nat) (fn:Func) (c:Code) (An:Ann) (ps:List PT) (ros:List (ResultVar × RO)):Prop where
 at_:P.funcs[g]? = some fn
 name:(fn.name == "runtime.NumGoroutine") = false
 body:fn.body = some c
 res:fn.results = (ros.map (·.1)).toArray
 ok:Zhx An fn.ntmps c = true
 kp:An.kp = keys 0 ps
 len:ps.length <= fn.ntmps
theorem resOf_mvs (ps:List PT) (ros:List (ResultVar × RO)) (y:D (Zdt (ros.map (·.2.ty) ++ Zdg ps))):(Zfo ps ros y).mvs = mvsK 0 ps:=by
 unfold Zfo
 generalize Zb1 ps ros y 0 = z
 obtain ⟨vs,bs,os⟩:=z
 match vs with
 | []=>rfl
 | [_]=>rfl
 | _ :: _ :: _=>rfl
theorem fn_at (hE:EnvC P E) (hmix:P.follows .mixedOrders = true) {g:Nat} {fn:Func} {c:Code} {An:Ann} {ps:List PT} {ros:List (ResultVar × RO)} (H:FnAt P g fn c An ps ros) {args:List V} {x:D (Zdt (ps.map PT.ty))} {y:D (Zdt (ros.map (·.2.ty) ++ Zdg ps))}
  (hx:Zh0 ps args = some x) (hy:fnR E An c ps ros x = some y) (hkeys:(Zfo ps ros y).outs.map (·.1) = keys 0 ps):SatAt P E.G g (avsOf ps args) (Zfo ps ros y):=by
 intro w A B io nb vs hA hB hglob hio harg
 left
 have henter:(callFunc g vs).run P w = .ok (.enter g vs) w:=by
  have h1:¬ fn.name = "runtime.NumGoroutine":=by simpa using H.name
  simp [callFunc,H.at_,h1,H.body]
 refine ⟨henter,?_⟩
 classical
 let io':Nat -> Option MB:=fun j=>if KM 0 ps j then io j else none
 let nb':Nat -> Nat -> Prop:=fun j b=>j ∈ mvsK 0 ps /\ nb j b
 let μ1:Mu:=fun j=>(io' j).map some
 let μ0:Mu:=fun j=>if j ∈ keys 0 ps then (io' j).map some else none
 have io'_key:∀ j,KM 0 ps j -> io' j = io j:=fun j hj=>if_pos hj
 have io'_some:∀ j q,io' j = some q -> KM 0 ps j /\ io j = some q:=fun j q e=>by
  by_cases hj:KM 0 ps j
  · exact ⟨hj,by rw [← io'_key j hj]; exact e⟩
  · have:io' j = none:=if_neg hj
    rw [this] at e; cases e
 have hIOb:∀ b,IOn io' nb' b -> IOn io nb b:=by
  rintro b (⟨j,q,ad,e1,e2,e3⟩ | ⟨j,_,hj⟩)
  · exact .inl ⟨j,q,ad,(io'_some j q e1).2,e2,e3⟩
  · exact .inr ⟨j,hj⟩
 have m0:Mem E.G w (IOn io' nb') A B A noMu [] w :=
  ⟨⟨rfl,rfl,rfl,Nat.le_refl _,fun _ _ _=>rfl,fun _=>Nat.le_refl _⟩,fun b x e=>(by cases e),fun b x q ad e=>(by cases e),fun b b' x x' q q' ad ad' e=>(by cases e),fun b hb=>⟨hA b hb,.inl hb⟩,fun b hb=>⟨hB b hb,fun h=>(hio.apart b (hIOb b h)).2.1 hb⟩,hglob,
    fun _ _=>False,⟨fun b x q e=>(by cases e),fun b x c e=>(by cases e),fun b x c b' x' q ad e=>(by cases e),fun b b' x x' c e=>(by cases e)⟩⟩
 have hμ:∀ j q,j ∈ keys 0 ps ++ mvsK 0 ps -> io j = some q -> μ1 j = some (some q):=fun j q hj e=>by
  show (io' j).map some = _
  rw [io'_key j (List.mem_append.1 hj),e]; rfl
 obtain ⟨i1,i2,i3,i4⟩:=init_ok m0 (o:=keys 0 ps ++ mvsK 0 ps) (io:=io) hμ ps 0 args x vs.toList hx (fun j hj=>List.mem_append.2 hj) harg
 have hvs:vs.size = ps.length:=by simpa using i3
 have hsub:noMu.sub μ1:=fun c o e=>by cases e
 have hrel:Rel E w (IOn io' nb') A B fn.ntmps μ0 (initS ps x).n (initS ps x) { tmps:=vs ++ Array.replicate (fn.ntmps - vs.size) undef,defers:=[] } w:=by
  refine ⟨A,μ1,⟨⟨m0.ext,fun b bx e=>?_,fun b bx q ad e hz hq ha=>?_,fun b b' bx bx' q q' ad ad' e e' hz hz' hq hq' ha ha' he=>?_,m0.fz,m0.bz,⟨fun g cs hg=>(tr_mu hsub).R (hglob.1 g cs hg),hglob.2⟩,?_⟩,fun t=>?_,?_,rfl,fun id hid=>?_,fun b o e=>?_⟩⟩
  · rw [initS_m] at e
    obtain ⟨k1,k2,q,k3,k4,_⟩:=i2 b bx e
    exact ⟨q,hμ b q (List.mem_append.2 k1) k3,k4⟩
  · rw [initS_m] at e
    obtain ⟨k1,k2,q',k3,k4,_⟩:=i2 b bx e
    rw [hμ b q' (List.mem_append.2 k1) k3] at hq; cases hq
    have:=hio.apart ad.block (.inl ⟨b,q,ad,k3,ha,rfl⟩)
    exact ⟨this.1,this.2.1,this.2.2,.inr (.inl ⟨b,q,ad,by rw [io'_key b k1]; exact k3,ha,rfl⟩)⟩
  · rw [initS_m] at e e'
    obtain ⟨k1,k2,p,k3,k4,_⟩:=i2 b bx e
    obtain ⟨l1,l2,p',l3,l4,_⟩:=i2 b' bx' e'
    rw [hμ b p (List.mem_append.2 k1) k3] at hq; cases hq
    rw [hμ b' p' (List.mem_append.2 l1) l3] at hq'; cases hq'
    exact hio.inj b b' q q' ad ad' k3 l3 ha ha' he
  · rw [initS_m]
    refine ⟨nb',⟨fun b bx q e hq=>?_,fun b bx c e hc=>?_,fun b bx c b' bx' q ad e hc e' hz hq ha he=>?_,fun b b' bx bx' c e e' hc hc'=>hio.nbInj b b' c hc.2 hc'.2⟩⟩
    · obtain ⟨k1,k2,q',k3,k4,k5,k6⟩:=i2 b bx e
      rw [hμ b q' (List.mem_append.2 k1) k3] at hq; cases hq
      rcases k6 with k6 | k6
      · exact Ze4 k6 _ _ _
      · have e:nb' b = nb b:=by funext c; exact propext ⟨fun h=>h.2,fun h=>⟨k6,h⟩⟩
        rw [e]; exact k5
    · have:=hio.apart c (.inr ⟨b,hc.2⟩)
      exact ⟨this.1,this.2.1,this.2.2,.inr (.inr ⟨b,hc⟩)⟩
    · obtain ⟨k1,k2,q',k3,k4,_⟩:=i2 b' bx' e'
      rw [hμ b' q' (List.mem_append.2 k1) k3] at hq; cases hq
      exact hio.nbIo b b' q ad k3 ha (he ▸ hc.2)
  · rw [initS_get]
    cases e:look (Zfz 0 ps x).1 t with
    | none=>simp only [R]
    | some v =>
      obtain ⟨_,cv,k2,k3⟩:=i1 t v e
      have hlt:t < vs.size:=by
       have:=(List.getElem?_eq_some_iff.1 k2).1; simpa using this
      have:(vs ++ Array.replicate (fn.ntmps - vs.size) undef).getD t undef = cv:=by
       rw [Array.getD_eq_getD_getElem?,Array.getElem?_append_left hlt]
       have k2':vs[t]? = some cv:=by simpa using k2
       rw [k2']; rfl
      simp only [this]; exact k3
  · have:=H.len
    simp; omega
  · show (io' id).map some = none
    have:io' id = none:=if_neg (fun hm=>by
     rw [initS_n] at hid
     rcases hm with hm | hm
     · have:=(keys_ge ps 0 id hm).2; omega
     · have:=(mvs_ge ps 0 id hm).2.1; omega)
    rw [this]; rfl
  · have e:(if b ∈ keys 0 ps then (io' b).map some else none) = some o:=e
    split at e
    · exact ⟨o,e,.inr rfl⟩
    · cases e
 have hkp:∀ i o,μ0 i = some o -> i ∈ An.kp:=fun i o e=>by
  rw [H.kp]
  have e:(if i ∈ keys 0 ps then (io' i).map some else none) = some o:=e
  split at e
  · assumption
  · cases e
 have hμ0:∀ j ∈ keys 0 ps,∃ q,io' j = some q /\ μ0 j = some (some q):=fun j hj=>by
  obtain ⟨q,hq⟩:=i4 j (.inl hj)
  refine ⟨q,by rw [io'_key j (.inl hj)]; exact hq,?_⟩
  show (if j ∈ keys 0 ps then (io' j).map some else none) = _
  rw [if_pos hj,io'_key j (.inl hj),hq]; rfl
 have mvb:∀ b,MVb (mvsK 0 ps) io' nb' b -> MVb (mvsK 0 ps) io nb b:=by
  rintro b ⟨i,hi,⟨q,ad,h1,h2,h3⟩ | h⟩
  · exact ⟨i,hi,.inl ⟨q,ad,(io'_some i q h1).2,h2,h3⟩⟩
  · exact ⟨i,hi,.inr h.2⟩
 have fin:∀ (s:St) (a:Act) (w':World),Rel E w (IOn io' nb') A B fn.ntmps μ0 s.n s a w' -> retOk E s ps ros = true -> Zf8 E s ps ros = some y ->
   a.defers = [] /\ ∃ v,(results fn a.tmps).run P w' = .ok v w' /\ ∃ v',Ending.returned v = .returned v' /\ ∃ F μ,ResR (E.G = []) A B w io nb (Zfo ps ros y) w' v' F μ:=fun s a w' ⟨F,μ,h⟩ h1 h2=>by
  obtain ⟨cv,k1,F',μr,k2⟩:=ret_ok hE h (fun b hb=>hio.apart b (hIOb b hb)) hμ0 (fun j q e=>(io'_some j q e).1) (fun j b h=>h.1) hA H.res h1 h2
  refine ⟨h.defers,cv,k1,cv,rfl,F',μr,?_⟩
  have rm:=resOf_mvs ps ros y
  obtain ⟨ν,d1,d2,d3⟩:=k2.deep
  have kfz:=k2.fz
  have kbs:=k2.bs
  rw [rm] at kfz kbs d2
  refine ⟨⟨k2.ext.os,k2.ext.tape,k2.ext.output,k2.ext.size,fun k hk hn=>k2.ext.block k hk (fun h=>hn (hIOb k h)),k2.ext.drawn⟩,?_,k2.val,?_,k2.dom,k2.bsInj,
   fun i x hx=>by obtain ⟨q,e1,e2⟩:=k2.outs i x hx; exact ⟨q,(io'_some i q e1).2,e2⟩,?_,ν,d1,?_,d3⟩
  · rw [rm]
    exact fun b hb=>(kfz b hb).imp (fun h=>h) (fun h=>h.imp (fun h=>h) (mvb b))
  · rw [rm]
    exact fun i x hx=>by
     obtain ⟨q,e1,e2,e3⟩:=kbs i x hx
     exact ⟨q,e1,e2,fun ad ha=>⟨(e3 ad ha).1,(e3 ad ha).2.1.imp (fun h=>h) (mvb _),(e3 ad ha).2.2⟩⟩
  · rw [rm]
    intro b hb hm hf
    rcases kfz b hf with h | h | h
    · exact (hio.apart b (.inl hb)).1 h
    · have:=(hio.apart b (.inl hb)).2.2; omega
    · exact hm (mvb b h)
  · rw [rm]
    exact fun i c hi hc=>⟨(d2 i c hi hc).1,(d2 i c hi hc).2.1.imp (fun h=>h) (mvb c),(d2 i c hi hc).2.2⟩
 unfold fnR at hy
 refine calls_of_wp H.at_ H.body (wp_mono (run_sound (An:=An) hE hmix hkp c H.ok (retK E ps ros) y (initS ps x) _ w hrel hy) (fun e a w'=>?_))
 rintro ⟨ex,s,rfl,h1,h2⟩
 cases ex with
 | exit id=>cases h1
 | normal =>
   simp only [retK] at h1
   split at h1
   · rename_i hok; exact fin s a w' h2 hok h1
   · cases h1
 | ret =>
   simp only [retK] at h1
   split at h1
   · rename_i hok; exact fin s a w' h2 hok h1
   · cases h1
theorem Zfq:∀ (ps:List PT) (i:Nat) (r:D (Zdt (Zdg ps))),(Ze5 i ps r).map (·.1) = keys i ps
 | [],_,_=>rfl
 | .val _ :: ps,i,r=>Zfq ps (i + 1) r
 | .rc _ :: ps,i,r=>Zfq ps (i + 1) r
 | .mv _ :: ps,i,r=>Zfq ps (i + 1) r
 | .fn _ _ :: ps,i,r=>Zfq ps (i + 1) r
 | .st τ :: ps,i,r=>by
   show i :: (Ze5 (i + 1) ps _).map (·.1) = i :: keys (i + 1) ps
   rw [Zfq ps (i + 1)]
 | .io τ :: ps,i,r=>by
   show i :: (Ze5 (i + 1) ps _).map (·.1) = i :: keys (i + 1) ps
   rw [Zfq ps (i + 1)]
 | .mx τ0 off0 τ :: ps,i,r=>by
   show i :: (Ze5 (i + 1) ps _).map (·.1) = i :: keys (i + 1) ps
   rw [Zfq ps (i + 1)]
theorem Zfv (ps:List PT):∀ (ros:List (ResultVar × RO)) (y:D (Zdt (ros.map (·.2.ty) ++ Zdg ps))) (k:Nat),(Zb1 ps ros y k).2.2.map (·.1) = keys 0 ps
 | [],y,k=>Zfq ps 0 y
 | (t,.val τ) :: r,y,k=>Zfv ps r (Zex (τ:=τ) _ y) k
 | (t,.own τ) :: r,y,k=>Zfv ps r (Zex (τ:=.sl τ) _ y) (k + 1)
 | (t,.st τ) :: r,y,k=>Zfv ps r (Zex (τ:=τ) _ y) (k + 1)
 | (t,.dp τ) :: r,y,k=>Zfv ps r (Zex (τ:=.sl τ) _ y) (k + 1)
 | (t,.mx τ off σ es) :: r,y,k=>Zfv ps r (Zex (τ:=τ) _ y) (k + 1)
theorem resOf_keys (ps:List PT) (ros:List (ResultVar × RO)) (y:D (Zdt (ros.map (·.2.ty) ++ Zdg ps))):(Zfo ps ros y).outs.map (·.1) = keys 0 ps:=by
 have h:=Zfv ps ros y 0
 unfold Zfo
 generalize Zb1 ps ros y 0 = z at h
 obtain ⟨vs,bs,os⟩:=z
 match vs with
 | []=>exact h
 | [_]=>exact h
 | _ :: _ :: _=>exact h
theorem resOf_offs (ps:List PT) (ros:List (ResultVar × RO)) (y:D (Zdt (ros.map (·.2.ty) ++ Zdg ps))):(Zfo ps ros y).offs = offsK 0 ps:=by
 unfold Zfo
 generalize Zb1 ps ros y 0 = z
 obtain ⟨vs,bs,os⟩:=z
 match vs with
 | []=>rfl
 | [_]=>rfl
 | _ :: _ :: _=>rfl
theorem fn_sat (hE:EnvC P E) (hmix:P.follows .mixedOrders = true) {g:Nat} {fn:Func} {c:Code} {An:Ann} {ps:List PT} {ros:List (ResultVar × RO)} (H:FnAt P g fn c An ps ros):SatC P E.G g (entry ps ros (fnR E An c ps ros)):=by
 intro ρ args K r h
 unfold entry at h
 split at h
 case h_2=>cases h
 rename_i x hx
 obtain ⟨y,hy,hK⟩:=Zd0 h
 refine ⟨avsOf ps args,Zfo ps ros y,?_,fn_at hE hmix H hx hy (resOf_keys ps ros y),hK⟩
 rw [resOf_keys,resOf_offs,resOf_mvs]
 exact match_ok ps 0 args x hx (fun j _=>Iff.rfl) (fun j _=>rfl) (fun j _=>Iff.rfl)
end
end Go.E
namespace Go.E
open Go Go.RowKit
section
variable {E:Env} {An:Ann} {ρ ρ':Type}
theorem Zhs (hE:E.ok) {ops:Array Oper} (f:ρ -> Option ρ'):∀ (l:List Oper) (base:Nat) (s:St) (K:St -> Option ρ),(opsK E ops l base s K).bind f = opsK E ops l base s (fun s=>(K s).bind f)
 | [],base,s,K=>rfl
 | o :: l,base,s,K=>by
   simp only [opsK]
   split
   · rw [opK_bind hE]; congr 1; funext v m; exact Zhs hE f l _ _ K
   · split
     · rfl
     · split
       · rfl
       · split
         · split
           · rw [Zdv,opK_bind hE]; congr 1
             · congr 1; funext v m; exact Zhs hE f l _ _ K
             · exact Zhs hE f l _ _ K
           · rw [Zdv,opK_bind hE]; congr 1
             · exact Zhs hE f l _ _ K
             · congr 1; funext v m; exact Zhs hE f l _ _ K
         · exact Zhs hE f l _ _ K
         · rfl
theorem orK_bind (hE:E.ok) {ops:Array Oper} {kp live:List Nat} {t:Sc} {base:Nat} {s:St} (f:ρ -> Option ρ') (K:St -> Option ρ):(orK E kp live ops t base s K).bind f = orK E kp live ops t base s (fun s=>(K s).bind f):=by
 unfold orK
 split
 · rfl
 · split
   · rw [Zgg hE]
   · rfl
theorem lim_eq {f:Nat -> Option ρ} {r:ρ} (hu:∀ k k' r r',f k = some r -> f k' = some r' -> r = r') {k:Nat} (h:f k = some r):lim f = some r:=by
 unfold lim
 have hx:∃ r,∃ k,f k = some r:=⟨r,k,h⟩
 rw [dif_pos hx]
 obtain ⟨k',h'⟩:=Classical.choose_spec hx
 exact congrArg some (hu _ _ _ _ h' h)
theorem lim_none {f:Nat -> Option ρ} (h:∀ k,f k = none):lim f = none:=by
 unfold lim
 rw [dif_neg]
 rintro ⟨r,k,e⟩
 rw [h] at e; cases e
def Kle (κ κ':Kt ρ):Prop:=∀ x s r,κ x s = some r -> κ' x s = some r
theorem chain_le {κs:Nat -> Kt ρ} (h:∀ k,Kle (κs k) (κs (k + 1))) (k:Nat):∀ d,Kle (κs k) (κs (k + d))
 | 0=>fun _ _ _ h=>h
 | d + 1=>fun x s r e=>h _ x s r (chain_le h k d x s r e)
structure MC (E:Env) (An:Ann) (a:Code):Prop where
 mono:∀ (ρ:Type) (s:St) (κ κ':Kt ρ) (r:ρ),Kle κ κ' -> run E An a s κ = some r -> run E An a s κ' = some r
 cont:∀ (ρ:Type) (s:St) (κ:Kt ρ) (κs:Nat -> Kt ρ) (r:ρ),(∀ k,Kle (κs k) (κs (k + 1))) -> (∀ x s r,κ x s = some r -> ∃ k,κs k x s = some r) -> run E An a s κ = some r -> ∃ k,run E An a s (κs k) = some r
theorem bind_mc {g:(St -> Option ρ) -> Option ρ} {o:Option St} (hg:∀ K,g K = o.bind K):(∀ (K K':St -> Option ρ) r,(∀ s r,K s = some r -> K' s = some r) -> g K = some r -> g K' = some r) /\
  ∀ (K:St -> Option ρ) (Ks:Nat -> St -> Option ρ) r,(∀ s r,K s = some r -> ∃ k,Ks k s = some r) -> g K = some r -> ∃ k,g (Ks k) = some r:=by
 refine ⟨fun K K' r hK h=>?_,fun K Ks r hK h=>?_⟩
 · rw [hg,Option.bind_eq_some_iff] at h ⊢
   obtain ⟨s,h1,h2⟩:=h
   exact ⟨s,h1,hK s r h2⟩
 · rw [hg,Option.bind_eq_some_iff] at h
   obtain ⟨s,h1,h2⟩:=h
   obtain ⟨k,hk⟩:=hK s r h2
   exact ⟨k,by rw [hg,Option.bind_eq_some_iff]; exact ⟨s,h1,hk⟩⟩
theorem opsK_some (hE:E.ok) {ops:Array Oper} (l:List Oper) (base:Nat) (s:St) (K:St -> Option ρ):opsK E ops l base s K = (opsK E ops l base s some).bind K:=by
 rw [Zhs hE]; rfl
theorem orK_some (hE:E.ok) {ops:Array Oper} {kp live:List Nat} {t:Sc} {base:Nat} {s:St} (K:St -> Option ρ):orK E kp live ops t base s K = (orK E kp live ops t base s some).bind K:=by
 rw [orK_bind hE]; rfl
theorem drawK_some (hE:E.ok) {ops:Array Oper} (l:List (Nat × Bool)) (p:List (Nat × List Nat)) (base:Nat) (s:St) (K:St -> Option ρ):Ze2 E ops l p base s K = (Ze2 E ops l p base s some).bind K:=by
 rw [Zgg hE]; rfl
theorem nextK_mono {x:Operand} {a c:Nat} {s:St} {K K':St -> Option ρ} {r:ρ} (hK:∀ s r,K s = some r -> K' s = some r) (h:nextK E x a c s K = some r):nextK E x a c s K' = some r:=by
 unfold nextK at h ⊢
 split at h
 · split at h
   · by_cases hl:‹List _›.length = 0
     · rw [Zkj hl] at h ⊢; exact hK _ _ h
     · exact pickK_mk (fun e=>absurd e hl) (fun j hj=>hK _ _ (pickK_some h hl j hj))
   · cases h
 · cases h
theorem bound_all {p:Nat -> Nat -> Prop} (hp:∀ k j,p k j -> p (k + 1) j):∀ n,(∀ j,j < n -> ∃ k,p k j) -> ∃ k,∀ j,j < n -> p k j
 | 0,_=>⟨0,fun j hj=>absurd hj (by omega)⟩
 | n + 1,h=>by
   obtain ⟨k,hk⟩:=bound_all hp n (fun j hj=>h j (by omega))
   obtain ⟨k',hk'⟩:=h n (by omega)
   have up:∀ a d j,p a j -> p (a + d) j:=fun a d j e=>by
    induction d with
    | zero=>exact e
    | succ d ih=>exact hp _ _ ih
   refine ⟨k + k',fun j hj=>?_⟩
   by_cases e:j = n
   · subst e; rw [Nat.add_comm]; exact up _ _ _ hk'
   · exact up _ _ _ (hk j (by omega))
theorem pickK_cont {α:Type} {l:List α} {d:St} {f:α -> List α -> St} {K:St -> Option ρ} {Ks:Nat -> St -> Option ρ} {r:ρ} (hs:∀ k s r,Ks k s = some r -> Ks (k + 1) s = some r) (hK:∀ s r,K s = some r -> ∃ k,Ks k s = some r) (h:pickK l (K d) (fun y r=>K (f y r)) = some r) :
  ∃ k,pickK l (Ks k d) (fun y r=>Ks k (f y r)) = some r:=by
 by_cases hl:l.length = 0
 · rw [Zkj hl] at h
   obtain ⟨k,hk⟩:=hK _ _ h
   exact ⟨k,by rw [Zkj hl]; exact hk⟩
 · obtain ⟨k,hk⟩:=bound_all (p:=fun k j=>∀ hj:j < l.length,Ks k (f l[j] (l.eraseIdx j)) = some r) (fun k j e hj=>hs _ _ _ (e hj)) l.length (fun j hj=>by
     obtain ⟨k,hk⟩:=hK _ _ (pickK_some h hl j hj)
     exact ⟨k,fun _=>hk⟩)
   exact ⟨k,pickK_mk (fun e=>absurd e hl) (fun j hj=>hk j hj hj)⟩
theorem nextK_cont {x:Operand} {a c:Nat} {s:St} {K:St -> Option ρ} {Ks:Nat -> St -> Option ρ} {r:ρ} (hs:∀ k s r,Ks k s = some r -> Ks (k + 1) s = some r) (hK:∀ s r,K s = some r -> ∃ k,Ks k s = some r) (h:nextK E x a c s K = some r):∃ k,nextK E x a c s (Ks k) = some r:=by
 unfold nextK at h ⊢
 split at h
 · split at h
   · exact pickK_cont hs hK h
   · cases h
 · cases h
theorem seqK_le {b:Code} (hB:MC E An b) {κ κ':Kt ρ} (h:Kle κ κ'):Kle (seqK An b (run E An b) κ) (seqK An b (run E An b) κ'):=fun x s r e=>by
 cases x with
 | normal=>rw [Ziq] at e ⊢; exact hB.mono _ _ _ _ _ h e
 | exit id=>exact h _ _ _ e
 | ret=>exact h _ _ _ e
theorem loopK_le {a:Code} {rec rec':St -> Option ρ} {κ κ':Kt ρ} (hr:∀ s r,rec s = some r -> rec' s = some r) (h:Kle κ κ'):Kle (loopK An a rec κ) (loopK An a rec' κ'):=fun x s r e=>by
 cases x with
 | normal=>exact hr _ _ e
 | exit id=>exact h _ _ _ e
 | ret=>exact h _ _ _ e
theorem iter_mono {a:Code} (hB:MC E An a) {κ κ':Kt ρ} (h:Kle κ κ'):∀ k s r,iter An a (run E An a) κ k s = some r -> iter An a (run E An a) κ' k s = some r
 | 0,s,r,e=>by cases e
 | k + 1,s,r,e=>hB.mono _ s _ _ r (loopK_le (fun s r=>iter_mono hB h k s r) h) e
theorem iter_step {a:Code} (hB:MC E An a) {κ:Kt ρ}:∀ k s r,iter An a (run E An a) κ k s = some r -> iter An a (run E An a) κ (k + 1) s = some r
 | 0,s,r,h=>by cases h
 | k + 1,s,r,h=>hB.mono _ s _ _ r (loopK_le (fun s r=>iter_step hB k s r) (fun _ _ _ h=>h)) h
theorem iter_le {a:Code} (hB:MC E An a) {κ:Kt ρ} {s:St} {r:ρ} {k:Nat} (h:iter An a (run E An a) κ k s = some r):∀ d,iter An a (run E An a) κ (k + d) s = some r
 | 0=>h
 | d + 1=>iter_step hB _ _ _ (iter_le hB h d)
theorem iter_uniq {a:Code} (hB:MC E An a) {κ:Kt ρ} {s:St} (k k':Nat) (r r':ρ) (h:iter An a (run E An a) κ k s = some r) (h':iter An a (run E An a) κ k' s = some r'):r = r':=by
 have e1:=iter_le hB h k'
 have e2:=iter_le hB h' k
 rw [Nat.add_comm,e2] at e1
 exact (Option.some.inj e1).symm
theorem Zgt {a:Code} (hB:MC E An a) {κ:Kt ρ} {s:St} {r:ρ}:loopR An a (run E An a) κ s = some r ↔ ∃ k,iter An a (run E An a) κ k s = some r:=by
 rw [loopR_def]
 exact ⟨lim_some,fun ⟨k,h⟩=>lim_eq (iter_uniq hB) h⟩
theorem iter_cont {a:Code} (hB:MC E An a) {κ:Kt ρ} {κs:Nat -> Kt ρ} (hs:∀ k,Kle (κs k) (κs (k + 1))) (hc:∀ x s r,κ x s = some r -> ∃ k,κs k x s = some r):∀ n s r,iter An a (run E An a) κ n s = some r -> ∃ k,iter An a (run E An a) (κs k) n s = some r
 | 0,s,r,h=>by cases h
 | n + 1,s,r,h=>hB.cont _ s (loopK An a (iter An a (run E An a) κ n) κ) (fun k=>loopK An a (iter An a (run E An a) (κs k) n) (κs k)) r (fun k=>loopK_le (fun s r=>iter_mono hB (hs k) n s r) (hs k)) (fun x s r e=>by
     cases x with
     | normal=>exact iter_cont hB hs hc n _ r e
     | exit id=>exact hc _ _ _ e
     | ret=>exact hc _ _ _ e) h
theorem run_mc (hE:E.ok):∀ c:Code,MC E An c:=by
 intro c
 induction c with
 | skip=>exact ⟨fun ρ s κ κ' r h e=>h _ _ _ e,fun ρ s κ κs r _ h e=>h _ _ _ e⟩
 | exit id=>exact ⟨fun ρ s κ κ' r h e=>h _ _ _ e,fun ρ s κ κs r _ h e=>h _ _ _ e⟩
 | ret=>exact ⟨fun ρ s κ κ' r h e=>h _ _ _ e,fun ρ s κ κs r _ h e=>h _ _ _ e⟩
 | region id ops d =>
   cases d with
   | false =>
     refine ⟨fun ρ s κ κ' r h e=>?_,fun ρ s κ κs r hs h e=>?_⟩
     · simp only [run] at e ⊢
       split at e
       · exact nextK_mono (fun s r=>h _ s r) e
       · exact (bind_mc (opsK_some hE ops.toList s.n s)).1 _ _ r (fun s r=>h _ s r) e
     · simp only [run] at e ⊢
       split at e
       · exact nextK_cont (Ks:=fun k=>κs k .normal) (fun k s r=>hs k _ s r) (fun s r=>h _ s r) e
       · exact (bind_mc (opsK_some hE ops.toList s.n s)).2 _ (fun k=>κs k .normal) r (fun s r=>h _ s r) e
   | true =>
     refine ⟨fun ρ s κ κ' r h e=>?_,fun ρ s κ κs r hs h e=>?_⟩
     · simp only [run] at e ⊢
       split at e
       · rw [hide_eq] at e ⊢
         simp only [orP] at e ⊢
         exact (bind_mc (orK_some hE)).1 _ _ r (fun s r=>h _ s r) e
       · split at e
         · exact (bind_mc (drawK_some hE _ _ _ _)).1 _ _ r (fun s r=>h _ s r) e
         · cases e
     · simp only [run] at e ⊢
       split at e
       · simp only [hide_eq,orP] at e ⊢
         exact (bind_mc (orK_some hE)).2 _ (fun k=>κs k .normal) r (fun s r=>h _ s r) e
       · split at e
         · exact (bind_mc (drawK_some hE _ _ _ _)).2 _ (fun k=>κs k .normal) r (fun s r=>h _ s r) e
         · cases e
 | seq a b iha ihb =>
   refine ⟨fun ρ s κ κ' r h e=>iha.mono _ s _ _ r (seqK_le ihb h) e,fun ρ s κ κs r hs h e=>?_⟩
   refine iha.cont _ s _ (fun k=>seqK An b (run E An b) (κs k)) r (fun k=>seqK_le ihb (hs k)) (fun x s r e=>?_) e
   cases x with
   | normal =>
     rw [Ziq] at e
     obtain ⟨k,hk⟩:=ihb.cont _ _ _ κs r hs h e
     exact ⟨k,by rw [Ziq]; exact hk⟩
   | exit id=>exact h _ _ _ e
   | ret=>exact h _ _ _ e
 | cond c a b iha ihb =>
   refine ⟨fun ρ s κ κ' r h e=>?_,fun ρ s κ κs r hs h e=>?_⟩
   · simp only [run] at e ⊢
     split at e
     · split at e
       · rcases Zfj e with ⟨rfl,e⟩ | ⟨rfl,e⟩
         · exact iha.mono _ _ _ _ r h e
         · exact ihb.mono _ _ _ _ r h e
       · rcases Zfj e with ⟨rfl,e⟩ | ⟨rfl,e⟩
         · exact iha.mono _ _ _ _ r h e
         · exact ihb.mono _ _ _ _ r h e
     · cases e
   · simp only [run] at e ⊢
     split at e
     · split at e
       · rcases Zfj e with ⟨rfl,e⟩ | ⟨rfl,e⟩
         · exact iha.cont _ _ _ κs r hs h e
         · exact ihb.cont _ _ _ κs r hs h e
       · rcases Zfj e with ⟨rfl,e⟩ | ⟨rfl,e⟩
         · exact iha.cont _ _ _ κs r hs h e
         · exact ihb.cont _ _ _ κs r hs h e
     · cases e
 | block id a ih =>
   have le:∀ {ρ:Type} {κ κ':Kt ρ},Kle κ κ' -> Kle (blockK id κ) (blockK id κ'):=fun h x s r e=>by
    cases x with
    | normal=>exact h _ _ _ e
    | ret=>exact h _ _ _ e
    | exit j =>
      simp only [blockK] at e ⊢
      split at e
      · rw [if_pos ‹_›]; exact h _ _ _ e
      · rw [if_neg ‹_›]; exact h _ _ _ e
   refine ⟨fun ρ s κ κ' r h e=>ih.mono _ s _ _ r (le h) e,fun ρ s κ κs r hs h e=>?_⟩
   refine ih.cont _ s _ (fun k=>blockK id (κs k)) r (fun k=>le (hs k)) (fun x s r e=>?_) e
   cases x with
   | normal=>exact h _ _ _ e
   | ret=>exact h _ _ _ e
   | exit j =>
     simp only [blockK] at e ⊢
     split at e
     · rename_i hj; simp only [if_pos hj]; exact h _ _ _ e
     · rename_i hj; simp only [if_neg hj]; exact h _ _ _ e
 | loop a ih =>
   refine ⟨fun ρ s κ κ' r h e=>?_,fun ρ s κ κs r hs h e=>?_⟩
   · simp only [run] at e ⊢
     obtain ⟨k,hk⟩:=(Zgt ih).1 e
     exact (Zgt ih).2 ⟨k,iter_mono ih h k _ r hk⟩
   · simp only [run] at e ⊢
     obtain ⟨n,hn⟩:=(Zgt ih).1 e
     obtain ⟨k,hk⟩:=iter_cont ih hs h n _ r hn
     exact ⟨k,(Zgt ih).2 ⟨n,hk⟩⟩
 | _=>exact ⟨fun ρ s κ κ' r h e=>by simp [run] at e,fun ρ s κ κs r _ h e=>by simp [run] at e⟩
theorem Zcg (hE:E.ok) (a:Code) (κ:Kt ρ) (s:St):loopR An a (run E An a) κ s = run E An a s (loopK An a (loopR An a (run E An a) κ) κ):=by
 have hB:MC E An a:=run_mc hE a
 apply Option.ext
 intro r
 constructor
 · intro h
   obtain ⟨k,hk⟩:=(Zgt hB).1 h
   cases k with
   | zero=>cases hk
   | succ k=>exact hB.mono _ s _ _ r (loopK_le (fun s r h=>(Zgt hB).2 ⟨k,h⟩) (fun _ _ _ h=>h)) hk
 · intro h
   obtain ⟨k,hk⟩:=hB.cont _ s _ (fun k=>loopK An a (iter An a (run E An a) κ k) κ) r (fun k=>loopK_le (fun s r=>iter_step hB k s r) (fun _ _ _ h=>h)) (fun x s r e=>by
    cases x with
    | normal=>exact (Zgt hB).1 e
    | exit id=>exact ⟨0,e⟩
    | ret=>exact ⟨0,e⟩) h
   exact (Zgt hB).2 ⟨k + 1,hk⟩
theorem entry_nat (ps:List PT) (ros:List (ResultVar × RO)) (f:D (Zdt (ps.map PT.ty)) -> Option (D (Zdt (ros.map (·.2.ty) ++ Zdg ps)))):Natu (entry ps ros f):=by
 intro R args K
 unfold entry
 split
 · rw [Zfu]; rfl
 · rfl
end
end Go.E
namespace Go.E
open Go Go.RowKit
def eqV0:V -> V -> Bool
 | .val .bool a,.val .bool b=>a == b
 | .val (.int k) a,.val (.int k') b=>decide (k = k') && a == b
 | .val .str a,.val .str b=>decide (a.data = b.data)
 | .val .err a,.val .err b=>a == b
 | .nil,.nil=>true
 | .nilp,.nilp=>true
 | .undef,.undef=>true
 | _,_=>false
theorem eqV0_ok {x y:V} (h:eqV0 x y = true):x = y:=by
 unfold eqV0 at h
 split at h
 · rename_i a b; have:(a:Bool) = b:=by simpa using h
   rw [this]
 · rename_i k a k' b
   simp only [Bool.and_eq_true,decide_eq_true_eq] at h
   obtain ⟨rfl,h⟩:=h
   have:(a:Int) = b:=by simpa using h
   rw [this]
 · rename_i a b
   have h:=of_decide_eq_true h
   cases a; cases b; cases h; rfl
 · rename_i a b; have:(a:Bool) = b:=by simpa using h
   rw [this]
 · rfl
 · rfl
 · rfl
 · cases h
def eqVL:List V -> List V -> Bool
 | [],[]=>true
 | x :: xs,y :: ys=>eqV0 x y && eqVL xs ys
 | _,_=>false
theorem eqVL_ok:∀ {xs ys:List V},eqVL xs ys = true -> xs = ys
 | [],[],_=>rfl
 | x :: xs,y :: ys,h=>by
   simp only [eqVL,Bool.and_eq_true] at h
   rw [eqV0_ok h.1,eqVL_ok h.2]
 | [],_ :: _,h=>by cases h
 | _ :: _,[],h=>by cases h
def kindOk (P:Program) (L:List (Nat × TL)) (t:Nat) (l:TL):Bool:=match l.k with
 | .int k=>match P.underlying t with
   | some (.int k')=>decide (k = k') && decide (l.ty = .int k)
   | _=>false
 | .bool=>match P.underlying t with
   | some .bool=>decide (l.ty = .bool)
   | _=>false
 | .str=>match P.underlying t with
   | some .string=>decide (l.ty = .str)
   | _=>false
 | .sl e=>match P.underlying t with
   | some (.slice e')=>match look L e with
     | some le=>decide (e = e') && decide (l.ty = .sl le.ty)
     | none=>false
   | _=>false
 | .st fs=>match P.underlying t with
   | some (.struct fields)=>decide (fs = (fields.toList.map fun f=>(f.offset,f.type))) && (fields.toList.all fun f=>(f.name == "_") == false && (match look L f.type with
     | some lu=>decide (f.offset + lu.ty.width <= l.ty.width)
     | none=>false)) && P.stoodInHeld t == false && P.eqGuardType P.depth t == false
   | _=>false
 | .err=>match P.underlying t with
   | some (.interface _)=>decide (l.ty = .err)
   | _=>false
 | .mp k e=>match P.underlying t with
   | some (.map k' e')=>decide (k = k') && decide (e = e')
   | _=>false
 | _=>true
def layOk (P:Program) (L:List (Nat × TL)) (t:Nat) (l:TL):Bool :=
 (match P.info? t with
  | some i=>decide (i.size = l.ty.width) && decide (i.bytes <= 512) && (match i.zero with
    | some z=>eqVL (z.cells.toList.map scal) l.zero && (match z with
      | .agg _=>l.ty.agg
      | _=>true)
    | none=>false)
  | none=>false) && decide (l.ty.width ≠ 0) && decide (l.zero.length = l.ty.width) &&
 (match P.underlying t with
  | some d=>(match d with | .struct _ | .array _ _=>true | _=>false) == l.ty.agg
  | none=>false) && kindOk P L t l
theorem layOk_ok {P:Program} {L:List (Nat × TL)} {t:Nat} {l:TL} (h:layOk P L t l = true):Lay P L t l:=by
 unfold layOk at h
 simp only [Bool.and_eq_true,decide_eq_true_eq] at h
 obtain ⟨⟨⟨⟨h1,h2⟩,h3⟩,h4⟩,h5⟩:=h
 constructor
 · split at h1
   · rename_i i hi
     simp only [Bool.and_eq_true,decide_eq_true_eq] at h1
     obtain ⟨⟨k1,k2⟩,k3⟩:=h1
     split at k3
     · rename_i z hz; exact ⟨i,hi,k1,k2,z,hz,eqVL_ok (by simp only [Bool.and_eq_true] at k3; exact k3.1)⟩
     · cases k3
   · cases h1
 · intro i z hi hz ha cs e
   subst e
   rw [hi] at h1
   simp only [Bool.and_eq_true,hz,ha] at h1
   exact absurd h1.2.2 (by simp)
 · exact h2
 · exact h3
 · split at h4
   · rename_i d hd; exact ⟨d,hd,by cases d <;> exact eq_of_beq h4⟩
   · cases h4
 · unfold kindOk at h5
   cases hk:l.k with
   | int k =>
     simp only [hk] at h5 ⊢
     split at h5
     · rename_i k' hu; simp only [Bool.and_eq_true,decide_eq_true_eq] at h5; obtain ⟨rfl,h5⟩:=h5; exact ⟨hu,h5⟩
     · cases h5
   | bool =>
     simp only [hk] at h5 ⊢
     split at h5
     · rename_i hu; exact ⟨hu,by simpa using h5⟩
     · cases h5
   | str =>
     simp only [hk] at h5 ⊢
     split at h5
     · rename_i hu; exact ⟨hu,by simpa using h5⟩
     · cases h5
   | sl e =>
     simp only [hk] at h5 ⊢
     split at h5
     · rename_i e' hu
       split at h5
       · rename_i le hle
         simp only [Bool.and_eq_true,decide_eq_true_eq] at h5
         obtain ⟨rfl,h5⟩:=h5
         exact ⟨hu,le,hle,h5⟩
       · cases h5
     · cases h5
   | st fs =>
     simp only [hk] at h5 ⊢
     split at h5
     · rename_i fields hu
       simp only [Bool.and_eq_true,decide_eq_true_eq,beq_iff_eq] at h5
       obtain ⟨⟨⟨k1,k2⟩,k3⟩,k4⟩:=h5
       refine ⟨fields,hu,k1,fun f hf=>?_,k3,k4⟩
       rw [List.all_eq_true] at k2
       have:=k2 f hf
       simp only [Bool.and_eq_true,beq_iff_eq] at this
       obtain ⟨j1,j2⟩:=this
       refine ⟨j1,?_⟩
       split at j2
       · rename_i lu hlu; exact ⟨lu,hlu,by simpa using j2⟩
       · cases j2
     · cases h5
   | err =>
     simp only [hk] at h5 ⊢
     split at h5
     · rename_i ms hu; exact ⟨⟨ms,hu⟩,by simpa using h5⟩
     · cases h5
   | mp k e =>
     simp only [hk] at h5 ⊢
     split at h5
     · rename_i k' e' hu
       simp only [Bool.and_eq_true,decide_eq_true_eq] at h5
       obtain ⟨rfl,rfl⟩:=h5
       exact hu
     · cases h5
   | ptr e=>trivial
   | other=>trivial
theorem look_of_mem {α:Type} {l:List (Nat × α)} {k:Nat} {x:α} (h:look l k = some x):(k,x) ∈ l:=by
 induction l with
 | nil=>cases h
 | cons p r ih =>
   obtain ⟨j,y⟩:=p
   rw [Zen] at h
   split at h
   · rename_i e; subst e; cases h; simp
   · exact List.mem_cons_of_mem _ (ih h)
theorem lays_ok {P:Program} {L:List (Nat × TL)} (h:(L.all fun p=>layOk P L p.1 p.2) = true):∀ t l,look L t = some l -> Lay P L t l:=fun t l hl=>by
 rw [List.all_eq_true] at h
 exact layOk_ok (h (t,l) (look_of_mem hl))
theorem look_consU {α:Type _} (k:Nat) (x:α) (l:List (Nat × α)) (j:Nat):look ((k,x) :: l) j = if k = j then some x else look l j:=rfl
theorem EnvC.cons {P:Program} {L:List (Nat × TL)} {G:List (Nat × List V)} {C:List (Nat × Zda)} {g:Nat} {c:Zda} (h:EnvC P { L:=L,G:=G,C:=C }) (hs:SatC P G g c) (hn:Natu c) :
  EnvC P { L:=L,G:=G,C:=(g,c) :: C }:=by
 refine ⟨⟨⟨fun f d e=>?_⟩,h.ok.lay⟩,fun f d e=>?_,h.glb⟩
 · have e':look ((g,c) :: C) f = some d:=e
   rw [look_consU] at e'
   split at e'
   · cases e'; exact hn
   · exact h.ok.nat.nat f d e'
 · have e':look ((g,c) :: C) f = some d:=e
   rw [look_consU] at e'
   split at e'
   · rename_i k; subst k; cases e'; exact hs
   · exact h.ctr f d e'
theorem EnvC.nil {P:Program} {L:List (Nat × TL)} (h:(L.all fun p=>layOk P L p.1 p.2) = true):EnvC P { L:=L,G:=[],C:=[] } :=
 ⟨⟨⟨fun f d e=>(by cases e)⟩,lays_ok h⟩,fun f d e=>(by cases e),fun g cs e=>(by cases e)⟩
theorem EnvC.deep {P:Program} {L:List (Nat × TL)} {G:List (Nat × List V)} {C:List (Nat × Zda)} {d:Bool} {n:List Nat} (h:EnvC P { L:=L,G:=G,C:=C }):EnvC P { L:=L,G:=G,C:=C,dp:=d,dn:=n } :=
 ⟨⟨⟨fun f d e=>h.ok.nat.nat f d e⟩,h.ok.lay⟩,fun f d e=>h.ctr f d e,h.glb⟩
end Go.E
namespace Go.E
open Go Go.RowKit
section
variable {P:Program} {G:List (Nat × List V)} {A B:Nat -> Prop} {w:World} {io:Nat -> Option MB} {nb:Nat -> Nat -> Prop}
theorem res_val {S:Prop} {τ:Ty} {x:D τ} {v:Value} (hA:∀ b,A b -> b < w.heap.size) (hio:IoOk A B w io nb) (hv:R A B w noMu (.val τ x) v):ResR S A B w io nb { v:=.val τ x } w v A noMu where
 ext:=⟨rfl,rfl,rfl,Nat.le_refl _,fun _ _ _=>rfl,fun _=>Nat.le_refl _⟩
 fz b hb:=.inl hb
 val:=hv
 bs i y h:=by simp at h
 dom i _:=rfl
 bsInj i j q q' ad ad' hi:=by simp at hi
 outs i y h:=by simp at h
 outsF b hb _:=(hio.apart b (.inl hb)).1
 deep:=⟨fun _ _=>False,fun i x q h=>by simp at h,fun i c h=>by simp at h,fun i j c h=>by simp at h⟩
theorem sat_ext2 {g:Nat} {fn:Func} {e:Array Value -> Sem Value} (hf:P.funcs[g]? = some fn) (hname:(fn.name == "runtime.NumGoroutine") = false) (hb:fn.body.isNone = true) (hn:Extern.findNext fn = none) (he:Extern.find fn = some e)
  {τ1 τ2 τ3:Ty} (h1:τ1.agg = false) (h2:τ2.agg = false) (h3:τ3.agg = false) (f:D τ1 × D τ2 -> Option (D τ3))
  (hrun:∀ x y z,f (x,y) = some z -> ∀ (F:Nat -> Prop) (v1 v2:Value) (w:World),RC F w τ1 x [v1] -> RC F w τ2 y [v2] -> ∃ v,(e #[v1,v2]).run P w = .ok v w /\ RC F w τ3 z [v]) :
  SatC P G g (entry [.val τ1,.val τ2] [(.tmp 0,.val τ3)] f):=by
 intro ρ args K r h
 unfold entry at h
 split at h
 case h_2=>cases h
 rename_i x hx
 obtain ⟨z,hz,hK⟩:=Zd0 h
 have hm:=match_ok (offs:=[]) (o:=[]) [.val τ1,.val τ2] 0 args x hx (mvs:=[]) (fun j _=>by simp [keys]) (fun j _=>rfl) (fun j _=>by simp [mvsK])
 refine ⟨avsOf [.val τ1,.val τ2] args,Zfo [.val τ1,.val τ2] [(.tmp 0,.val τ3)] z,hm,?_,hK⟩
 obtain ⟨v1,r1,rfl,k1,hx2⟩:=Zfg hx
 obtain ⟨v2,r2,rfl,k2,hx3⟩:=Zfg hx2
 cases r2 with
 | cons _ _=>cases hx3
 | nil =>
   cases v1 with
   | val σ1 x1 =>
     cases v2 with
     | val σ2 x2 =>
       obtain ⟨e1,e1'⟩:=Zcb k1
       cases e1
       obtain ⟨e2,e2'⟩:=Zcb k2
       cases e2
       intro w A B io nb vs hA hB hglob hio harg
       right
       obtain ⟨vl,rfl⟩:∃ l:List Value,vs = l.toArray:=⟨vs.toList,by simp⟩
       simp only [avsOf,avOf] at harg
       match vl,harg with
       | [c1,c2],harg =>
         have ha1:R A B w noMu (.val τ1 x1) c1:=harg.1
         have ha2:R A B w noMu (.val τ2 x2) c2:=harg.2.1
         simp only [R,h1] at ha1
         simp only [R,h2] at ha2
         have hz':f (x1,x2) = some z:=by
          have q:((x1,x2):D τ1 × D τ2) = x:=Prod.ext e1'.symm e2'.symm
          rw [q]; exact hz
         obtain ⟨v,hv1,hv2⟩:=hrun x1 x2 z hz' A c1 c2 w ha1 ha2
         refine ⟨v,w,?_,A,noMu,res_val hA hio ?_⟩
         · rw [run_callFunc_extern hf hname hb hn he]
           simp [hv1,Result.andThen]
         · simp only [R,h3]; exact hv2
     | _=>cases k2
   | _=>cases k1
end
end Go.E
namespace Go.E
open Go Go.RowKit
def cntB (p:ByteArray × Int):Option Int:=some ((Lib.countByte p.1.data.toList p.2.toNat.toUInt8:Nat):Int)
def idxB (p:ByteArray × Int):Option Int:=some (Lib.indexByte p.1.data.toList p.2.toNat.toUInt8)
section
variable {P:Program} {G:List (Nat × List V)}
theorem countString_sat {g:Nat} {fn:Func} (hf:P.funcs[g]? = some fn) (hname:(fn.name == "runtime.NumGoroutine") = false) (hb:fn.body.isNone = true) (hn:Extern.findNext fn = none) (he:Extern.find fn = some Extern.BytealgCount.count) :
  SatC P G g (entry [.val .str,.val (.int .u8)] [(.tmp 0,.val (.int .i64))] cntB) :=
 sat_ext2 (τ1:=.str) (τ2:=.int .u8) (τ3:=.int .i64) hf hname hb hn he rfl rfl rfl cntB (fun x y z hz F v1 v2 w k1 k2=>by
  simp only [RC] at k1 k2
  cases k1; cases k2
  refine ⟨.int .i64 z,?_,by simp [RC]⟩
  have hz':=Option.some.inj hz
  subst hz'
  exact Lib.run_countString x y w)
theorem indexByteString_sat {g:Nat} {fn:Func} (hf:P.funcs[g]? = some fn) (hname:(fn.name == "runtime.NumGoroutine") = false) (hb:fn.body.isNone = true) (hn:Extern.findNext fn = none) (he:Extern.find fn = some Extern.BytealgIndexByte.indexByte) :
  SatC P G g (entry [.val .str,.val (.int .u8)] [(.tmp 0,.val (.int .i64))] idxB) :=
 sat_ext2 (τ1:=.str) (τ2:=.int .u8) (τ3:=.int .i64) hf hname hb hn he rfl rfl rfl idxB (fun x y z hz F v1 v2 w k1 k2=>by
  simp only [RC] at k1 k2
  cases k1; cases k2
  refine ⟨.int .i64 z,?_,by simp [RC]⟩
  have hz':=Option.some.inj hz
  subst hz'
  exact Lib.run_indexByteString x y w)
end
end Go.E
namespace Go.E
open Go
section
variable {R α:Type}
theorem Zew (p:Prop) [Decidable p] (x y:Option R):iteB (decide p) x y = if p then x else y:=by
 unfold iteB; by_cases h:p <;> simp [h]
theorem Zah (a b:Int) (x y:Option R):iteB (ltI a b) x y = if a < b then x else y:=Zew _ x y
theorem Zdh (a b:Int) (x y:Option R):iteB (leI a b) x y = if a <= b then x else y:=Zew _ x y
theorem Zci (a b:Int) (x y:Option R):iteB (eqI a b) x y = if a = b then x else y:=Zew _ x y
theorem Zef (a b:ByteArray) (x y:Option R):iteB (eqS a b) x y = if a = b then x else y:=Zew _ x y
theorem Zck (b:Bool) (x y:Option R):iteB (notB b) x y = iteB b y x:=by unfold iteB notB; cases b <;> rfl
theorem Zeu (x y:Option R):iteB true x y = x:=rfl
theorem Ze7 (x y:Option R):iteB false x y = y:=rfl
theorem Zdb (a b:List α) (x y:Option R):iteB (Zek a b) x y = if a.length + b.length <= Zfa then x else y:=Zew _ x y
theorem Zh6 (a b:ByteArray) (x y:Option R):iteB (roomS a b) x y = if a.size + b.size <= Zfa then x else y:=Zew _ x y
theorem iteB_roomN (n:Int) (x y:Option R):iteB (roomN n) x y = if 0 <= n /\ n <= (Zfa:Nat) then x else y:=Zew _ x y
theorem Zd5 (l h n:Int) (x y:Option R):iteB (Zfs l h n) x y = if 0 <= l /\ l <= h /\ h <= n then x else y:=Zew _ x y
theorem Zac (a:α) (f:α -> Option R):bindO (some a) f = f a:=rfl
theorem bindO_none' (f:α -> Option R):bindO none f = none:=rfl
theorem Zbg (l:List α):lenL l = (l.length:Int):=rfl
theorem Zd6 (s:ByteArray):lenS s = (s.size:Int):=rfl
theorem Zcw (l:List α) (n:Nat):atL l (n:Int) = l[n]?:=by unfold atL; rw [if_pos (by omega)]; simp
theorem atL_get (l:List α) (i:Int) (h0:0 <= i) (h1:i < l.length):∃ (h:i.toNat < l.length),atL l i = some l[i.toNat]:=by
 have h:i.toNat < l.length:=by omega
 refine ⟨h,?_⟩
 unfold atL; rw [if_pos h0,List.getElem?_eq_getElem h]
theorem Zc5 (a b:Int) (h1:-9223372036854775808 <= a + b) (h2:a + b <= 9223372036854775807):addI .i64 a b = a + b:=IntWalk.i64_in _ ⟨h1,h2⟩
theorem Zkf (a b:Int) (h1:-9223372036854775808 <= a - b) (h2:a - b <= 9223372036854775807):subI .i64 a b = a - b:=IntWalk.i64_in _ ⟨h1,h2⟩
end
end Go.E
namespace Go.E
open Go Go.RowKit
def Good':(τ:Ty) -> D τ -> Prop
 | .int k,n=>(Lit.int k n).wf = true
 | .str,s=>s.size <= maxLen
 | .pr a b,x=>Good' a x.1 /\ Good' b x.2
 | .sl e,l=>List.length l <= maxLen /\ ∀ x:D e,x ∈ asL l -> Good' e x
 | _,_=>True
def tySeq (L:List (Nat × TL)):List (Nat × Nat) -> Nat -> Option Ty
 | [],_=>none
 | [(o,t)],n=>if o = n then (look L t).map (·.ty) else none
 | (o,t) :: f :: r,n=>if o = n then match look L t with
   | some l=>(tySeq L (f :: r) (n + l.ty.width)).map (.pr l.ty)
   | none=>none
   else none
def stTy (L:List (Nat × TL)):List (Nat × Nat) -> Option Ty
 | [(o,t)]=>if o = 0 then (look L t).map fun l=>.pr l.ty .unit else none
 | fs=>tySeq L fs 0
def rdOk (L:List (Nat × TL)) (T:List Nat) (t:Nat):Bool:=match look L t with
 | none=>false
 | some l=>match l.k with
   | .int _=>true
   | .bool=>true
   | .str=>true
   | .sl e=>T.contains e
   | .st fs=>decide (stTy L fs = some l.ty) && fs.all fun f=>T.contains f.2
   | _=>false
theorem cells_at {w:World} {base:Nat} {a:Addr} {n:Nat} {cs:List Value} (h:w.cells? base a n = some cs):cs.length = n /\ ∀ i v,cs[i]? = some v -> w.cell? (a.add i) = some v:=by
 unfold World.cells? at h
 split at h
 · have hl:=mapM_some_length h
   simp at hl
   refine ⟨hl,fun i v hi=>?_⟩
   have hlt:=(List.getElem?_eq_some_iff.1 hi).1
   have:=mapM_some_get h i i (by rw [List.getElem?_range (by omega)])
   rw [this,hi]
 · cases h
theorem cell_block {w:World} {a:Addr} {v:Value} (h:w.cell? a = some v):a.spot = none /\ a.block < w.heap.size:=by
 unfold World.cell? at h
 split at h
 · rename_i c t f hb
   refine ⟨?_,(Array.getElem?_eq_some_iff.1 hb).1⟩
   split at h
   · cases h
   · rename_i hs; simpa using hs
 · cases h
section
variable {H:Type} {enc:TypeId × Value -> H} {P:Program} {w:World} {base:Nat} {held:Bool} {L:List (Nat × TL)} {T:List Nat}
abbrev FH (w:World):Nat -> Prop:=fun b=>b < w.heap.size
theorem seq_ok (cs:List Value):∀ (fs:List (Nat × Nat)) (n:Nat) (τ:Ty),tySeq L fs n = some τ -> cs.length = n + τ.width ->
  (∀ f ∈ fs,∀ l,look L f.2 = some l -> ∃ x:D l.ty,RC (FH w) w l.ty x ((cs.drop f.1).take l.ty.width) /\ Good' l.ty x) -> ∃ x:D τ,RC (FH w) w τ x (cs.drop n) /\ Good' τ x
 | [],n,τ,h,_,_=>by cases h
 | [(o,t)],n,τ,h,hc,hf=>by
   simp only [tySeq] at h
   split at h
   rotate_left
   · cases h
   rename_i e; subst e
   cases hl:look L t with
   | none=>rw [hl] at h; cases h
   | some l =>
     rw [hl] at h; simp only [Option.map_some,Option.some.injEq] at h; subst h
     obtain ⟨x,h1,h2⟩:=hf (o,t) (by simp) l hl
     rw [List.take_of_length_le (by simp; omega)] at h1
     exact ⟨x,h1,h2⟩
 | (o,t) :: f :: r,n,τ,h,hc,hf=>by
   simp only [tySeq] at h
   split at h
   rotate_left
   · cases h
   rename_i e; subst e
   cases hl:look L t with
   | none=>rw [hl] at h; cases h
   | some l =>
     rw [hl] at h
     simp only [Option.map_eq_some_iff] at h
     obtain ⟨τ',h,rfl⟩:=h
     simp only [Ty.width] at hc
     obtain ⟨x,h1,h2⟩:=hf (o,t) (by simp) l hl
     obtain ⟨y,h3,h4⟩:=seq_ok cs (f :: r) (o + l.ty.width) τ' h (by omega) (fun g hg=>hf g (by simp [hg]))
     refine ⟨(x,y),?_,h2,h4⟩
     simp only [RC]
     refine ⟨_,_,?_,h1,h3⟩
     rw [← List.drop_drop,List.take_append_drop]
theorem st_ok (cs:List Value) (fs:List (Nat × Nat)) (τ:Ty) (h:stTy L fs = some τ) (hc:cs.length = τ.width)
  (hf:∀ f ∈ fs,∀ l,look L f.2 = some l -> ∃ x:D l.ty,RC (FH w) w l.ty x ((cs.drop f.1).take l.ty.width) /\ Good' l.ty x):∃ x:D τ,RC (FH w) w τ x cs /\ Good' τ x:=by
 unfold stTy at h
 split at h
 · rename_i o t
   split at h
   rotate_left
   · cases h
   rename_i e; subst e
   cases hl:look L t with
   | none=>rw [hl] at h; cases h
   | some l =>
     rw [hl] at h; cases h
     obtain ⟨x,h1,h2⟩:=hf (0,t) (by simp) l hl
     simp only [Ty.width,Nat.add_zero] at hc
     rw [List.drop_zero,List.take_of_length_le (by omega)] at h1
     exact ⟨(x,()),by simp only [RC]; exact ⟨cs,[],by simp,h1,rfl⟩,h2,trivial⟩
 · have:=seq_ok (w:=w) cs fs 0 τ h (by omega) hf
   rwa [List.drop_zero] at this
theorem cellsOf_lay {t:Nat} {l:TL} (h:Lay P L t l):P.cellsOf t = l.ty.width:=by
 obtain ⟨i,h1,h2,_⟩:=h.size
 simp [Program.cellsOf,h1,h2]
theorem read_ok (hE:∀ t l,look L t = some l -> Lay P L t l) (hT:T.all (rdOk L T) = true):∀ (n t:Nat) (cs:List Value) (x:DataW H × List MemPlace),t ∈ T ->
  DataW.trod enc P w base (fun _=>true) held n t cs = some x -> ∃ l,look L t = some l /\ ∃ d:D l.ty,RC (FH w) w l.ty d cs /\ Good' l.ty d:=by
 intro n
 induction n with
 | zero=>intro t cs x ht h; simp [DataW.trod] at h
 | succ n ih =>
   intro t cs x ht h
   have hr:=List.all_eq_true.1 hT t ht
   unfold rdOk at hr
   cases hl:look L t with
   | none=>rw [hl] at hr; cases hr
   | some l =>
     rw [hl] at hr
     refine ⟨l,rfl,?_⟩
     have lay:=hE t l hl
     have hk:=lay.kind
     simp only at hr
     split at hr
     · rename_i k hk'
       rw [hk'] at hk
       obtain ⟨v,rfl,_,hw⟩:=DataW.trod_int hk.1 h
       rw [hk.2]
       exact ⟨v,by simp only [RC],hw⟩
     · rename_i hk'
       rw [hk'] at hk
       obtain ⟨v,rfl,_⟩:=DataW.trod_bool hk.1 h
       rw [hk.2]
       exact ⟨v,by simp only [RC],trivial⟩
     · rename_i hk'
       rw [hk'] at hk
       obtain ⟨v,rfl,_,hw⟩:=DataW.trod_string hk.1 h
       rw [hk.2]
       exact ⟨v,by simp only [RC],hw⟩
     · rename_i e hk'
       rw [hk'] at hk
       obtain ⟨hu,le,hle,hty⟩:=hk
       have laye:=hE e le hle
       have he:e ∈ T:=by simpa using hr
       rw [hty]
       rcases DataW.trod_slice hu h with ⟨rfl,_⟩ | ⟨a,len,cap,elems,rest,m,hm,rfl,_,hb,hlc,hcm,hel,hat,hsp,_⟩
       · exact ⟨([]:List (D le.ty)),by simp only [RC]; exact ⟨none,0,rfl,Nat.le_refl _,fun _=>rfl,fun _ e=>by cases e⟩,Nat.zero_le _,fun x hx=>by cases hx⟩
       · obtain rfl:n = m:=by omega
         have hw:=cellsOf_lay laye
         rw [hw] at hat hsp
         have one:∀ i,i < len -> ∃ y:D le.ty,Good' le.ty y /\ ∃ c,RC (FH w) w le.ty y c /\ ∀ j v,c[j]? = some v -> w.cell? ((a.add (i * le.ty.width)).add j) = some v:=by
          intro i hi
          have h1:=hat i hi
          rw [List.getElem?_eq_getElem (by omega),Option.bind_eq_some_iff] at h1
          obtain ⟨c,h2,h3⟩:=h1
          obtain ⟨l',hl',d,h4,h5⟩:=ih e c _ he h3
          rw [hle] at hl'; cases hl'
          exact ⟨d,h5,c,h4,(cells_at h2).2⟩
         have hspot:0 < cap -> a.spot = none /\ a.block < w.heap.size:=by
          intro hc
          have pos:=laye.pos
          have first:∃ c,w.cells? base (a.add (0 * le.ty.width)) le.ty.width = some c:=by
           by_cases h0:0 < len
           · have h1:=hat 0 h0
             rw [List.getElem?_eq_getElem (by omega),Option.bind_eq_some_iff] at h1
             obtain ⟨c,h2,_⟩:=h1
             exact ⟨c,h2⟩
           · obtain ⟨hsp1,hsp2⟩:=hsp rfl
             have h1:=hsp2 0 (by omega)
             have e0:len + 0 = 0:=by omega
             rw [e0,List.getElem?_eq_getElem (by omega),Option.bind_eq_some_iff] at h1
             obtain ⟨c,h2,_⟩:=h1
             exact ⟨c,h2⟩
          obtain ⟨c,hcc⟩:=first
          obtain ⟨k1,k2⟩:=cells_at hcc
          have k3:=k2 0 c[0] (by rw [List.getElem?_eq_getElem (by omega)])
          have:(a.add (0 * le.ty.width)).add 0 = a:=by simp [Addr.add]
          rw [this] at k3
          exact cell_block k3
         have all:∀ k,k <= len -> ∃ ys:List (D le.ty),ys.length = k /\ ∀ i y,ys[i]? = some y -> Good' le.ty y /\ ∃ c,RC (FH w) w le.ty y c /\ ∀ j v,c[j]? = some v -> w.cell? ((a.add (i * le.ty.width)).add j) = some v:=by
          intro k
          induction k with
          | zero=>exact fun _=>⟨[],rfl,fun i y h=>by simp at h⟩
          | succ k ihk =>
            intro hk
            obtain ⟨ys,h1,h2⟩:=ihk (by omega)
            obtain ⟨y,hy⟩:=one k (by omega)
            refine ⟨ys ++ [y],by simp [h1],fun i z hi=>?_⟩
            by_cases c:i < ys.length
            · rw [List.getElem?_append_left c] at hi; exact h2 i z hi
            · have hlt:=(List.getElem?_eq_some_iff.1 hi).1
              simp only [List.length_append,List.length_cons,List.length_nil] at hlt
              have e:i = ys.length:=by omega
              subst e
              rw [List.getElem?_append_right (Nat.le_refl _),Nat.sub_self] at hi
              obtain rfl:y = z:=by simpa using hi
              rw [h1]; exact hy
         obtain ⟨ys,h1,h2⟩:=all len (Nat.le_refl _)
         subst h1
         refine ⟨(ys:List (D le.ty)),?_,by show ys.length <= maxLen; omega,fun y hy=>?_⟩
         · simp only [RC]
           refine ⟨some a,cap,rfl,hlc,fun h=>by (cases h),fun ad had hc=>?_⟩
           cases had
           obtain ⟨s1,s2⟩:=hspot (by have hc:0 < ys.length:=hc; omega)
           refine ⟨s1,s2,fun i y hy=>?_⟩
           obtain ⟨_,c,k1,k2⟩:=h2 i y hy
           refine ⟨c,k1,fun j v hj=>?_⟩
           have:=k2 j v hj
           obtain ⟨b,o,sp⟩:=a
           simp at s1; subst s1
           rw [Zd8,Zd8] at this
           exact this
         · obtain ⟨i,hi⟩:=List.mem_iff_getElem?.1 hy
           exact (h2 i y hi).1
     · rename_i fs hk'
       rw [hk'] at hk
       simp only [Bool.and_eq_true,decide_eq_true_eq] at hr
       obtain ⟨hty,hall⟩:=hr
       obtain ⟨fields,hu,rfl,_,_⟩:=hk
       obtain ⟨xs,m,hm,_,hlen,hxs,hget⟩:=DataW.trod_struct hu h
       obtain rfl:n = m:=by omega
       refine st_ok cs _ l.ty hty (by rw [hlen,cellsOf_lay lay]) (fun f hf lf hlf=>?_)
       simp only [List.mem_map] at hf
       obtain ⟨fd,hfd,rfl⟩:=hf
       obtain ⟨i,hi⟩:=List.mem_iff_getElem?.1 hfd
       have hi':fields[i]? = some fd:=by simpa using hi
       have hilt:=(Array.getElem?_eq_some_iff.1 hi').1
       have h1:=hget i fd hi'
       rw [List.getElem?_eq_getElem (by omega)] at h1
       have hmem:fd.type ∈ T:=by
        have:=List.all_eq_true.1 hall (fd.offset,fd.type) (List.mem_map_of_mem (f:=fun f:Field=>(f.offset,f.type)) hfd)
        simpa using this
       obtain ⟨l',hl',d,h4,h5⟩:=ih fd.type _ _ hmem h1
       have hlf:look L fd.type = some lf:=hlf
       rw [hlf] at hl'; cases hl'
       rw [cellsOf_lay (hE _ _ hlf)] at h4
       exact ⟨d,h4,h5⟩
     · cases hr
theorem arg_ok (hE:∀ t l,look L t = some l -> Lay P L t l) (hT:T.all (rdOk L T) = true) {t:Nat} {l:TL} (hl:look L t = some l) (ht:t ∈ T) {v:Value} {d:DataW H} {p:List MemPlace} {b:Nat}
  (hv:Value.okWide P w .any b t v) (h:DataW.Trod enc P w base (fun _=>true) held t v d p):∃ x:D l.ty,(∀ B μ,R (FH w) B w μ (.val l.ty x) v) /\ Good' l.ty x:=by
 obtain ⟨n,h⟩:=h
 obtain ⟨l',hl',x,h1,h2⟩:=read_ok hE hT n t _ _ ht h
 rw [hl] at hl'; cases hl'
 refine ⟨x,fun B μ=>?_,h2⟩
 simp only [R]
 have lay:=hE t l hl
 obtain ⟨dsc,hd,hagg⟩:=lay.und
 cases ha:l.ty.agg with
 | true =>
   rw [ha] at hagg
   have:∃ cs,v = .agg cs:=by
    unfold Value.okWide at hv
    rw [hd] at hv
    split at hv
    · obtain ⟨cs,e,_⟩:=hv; exact ⟨cs,e⟩
    · obtain ⟨cs,e,_⟩:=hv; exact ⟨cs,e⟩
    · rename_i n1 n2
      cases dsc <;> simp at hagg
      · exact (n2 _ _ rfl).elim
      · exact (n1 _ rfl).elim
   obtain ⟨cs,rfl⟩:=this
   exact ⟨cs,rfl,h1⟩
 | false =>
   have hw:=h1.len
   have:v.cells.toList = [v]:=by
    by_cases hc:∃ cs,v = .agg cs
    · exfalso
      obtain ⟨cs,rfl⟩:=hc
      unfold Value.okWide at hv
      rw [hd] at hv
      rw [ha] at hagg
      cases dsc <;> simp at hagg <;> simp [Cell.okWide,hd,Cell.ok] at hv
    · cases v <;> first | rfl | exact absurd ⟨_,rfl⟩ hc
   rw [this] at h1
   exact h1
end
end Go.E
namespace Go.E
open Go Go.RowKit
section
variable {H:Type} {enc:TypeId × Value -> H} {P:Program} {w:World} {base:Nat} {held:Bool} {L:List (Nat × TL)} {T:List Nat}
theorem arg_ok' (hE:(L.all fun p=>layOk P L p.1 p.2) = true) (hT:T.all (rdOk L T) = true) {t:Nat} {τ:Ty} (hl:(look L t).map (·.ty) = some τ) (ht:T.contains t = true) {v:Value} {d:DataW H} {p:List MemPlace} {b:Nat}
  (hv:Value.okWide P w .any b t v) (h:DataW.Trod enc P w base (fun _=>true) held t v d p):∃ x:D τ,(∀ B μ,R (FH w) B w μ (.val τ x) v) /\ Good' τ x:=by
 rw [Option.map_eq_some_iff] at hl
 obtain ⟨l,hl,rfl⟩:=hl
 exact arg_ok (lays_ok hE) hT hl (by simpa using ht) hv h
end
section
variable {P:Program} {G:List (Nat × List V)} {A B:Nat -> Prop} {w:World} {io:Nat -> Option MB}
theorem argR_vals {offs:List (Nat × Nat)} {mvs:List Nat} {nb:Nat -> Nat -> Prop}:∀ (args:List V) (avs:List AV) (i:Nat) (vs:List Value),Match offs mvs [] i args avs -> mvs = [] -> RL A B w noMu args vs -> ArgR A B w io nb i avs vs
 | [],[],i,vs,_,_,h=>by cases vs with | nil=>trivial | cons _ _=>simp [RL] at h
 | x :: r,av :: avs,i,vs,hm,hmv,h=>by
   cases vs with
   | nil=>simp [RL] at h
   | cons v vs =>
     simp only [RL] at h
     obtain ⟨h1,h2⟩:=hm
     cases av with
     | fr y=>exact ⟨by rw [← h1.1]; exact h.1,argR_vals r avs (i + 1) vs h2 hmv h.2⟩
     | st cs=>exact absurd h1.2 (by simp)
     | io τ l=>exact absurd h1.2 (by simp)
     | mx cs off τ l=>exact absurd h1.2.1 (by simp)
     | mv τ l=>rw [hmv] at h1; exact absurd h1.2 (by simp)
 | [],_ :: _,_,_,hm,_,_=>hm.elim
 | _ :: _,[],_,_,hm,_,_=>hm.elim
theorem law_true {g:Nat} {c:Zda} (hs:SatC P [] g c) {args:List V} {res:Res} (hr:c Res args some = some res) (hv:res.v = .val .bool true) (ho:res.outs = []) {vs:Array Value} (hmv:res.mvs = []:=by rfl)
  (hR:RL (FH w) (fun _=>False) w noMu args vs.toList) {fn:Func} (hf:P.funcs[g]? = some fn) (hb:fn.body.isSome = true) (hn:(fn.name == "runtime.NumGoroutine") = false) :
  Calls P g vs w fun e w'=>e = .returned (.bool true) /\ Below w.heap.size w w':=by
 obtain ⟨avs,res',hm,hsat,e⟩:=hs Res args some res hr
 cases e
 rw [ho] at hm
 have hd:=hsat w (FH w) (fun _=>False) (fun _=>none) (fun _ _=>False) vs (fun _ h=>h) (fun _ h=>h.elim) ⟨fun g cs h=>(nomatch h),fun g cs h=>(nomatch h)⟩
  ⟨fun b h=>(h.elim (fun ⟨i,q,ad,h,_⟩=>(nomatch h)) (fun ⟨_,h⟩=>h.elim)),fun i j q q' ad ad' h=>(nomatch h),fun i j b h=>h.elim,fun i j q ad h=>(nomatch h)⟩ (argR_vals args avs 0 vs.toList hm hmv hR)
 have henter:(callFunc g vs).run P w = .ok (.enter g vs) w:=by
  obtain ⟨body,hbo⟩:=Option.isSome_iff_exists.1 hb
  have h1:¬ fn.name = "runtime.NumGoroutine":=by simpa using hn
  simp [callFunc,hf,h1,hbo]
 rcases hd with ⟨_,hc⟩ | ⟨v,w',h1,_⟩
 · refine hc.mono fun e w' ⟨v,he,F,μ,k⟩=>?_
   subst he
   have hval:=k.val
   rw [hv] at hval
   simp only [R,Ty.agg,RC] at hval
   cases hval
   refine ⟨rfl,k.ext.os,k.ext.tape,k.ext.output,k.ext.size,fun b hlt=>k.ext.block b hlt ?_⟩
   rintro (⟨i,q,ad,h,_⟩ | ⟨_,h⟩)
   · cases h
   · exact h
 · rw [henter] at h1; cases h1
theorem law_trueG {B:Nat -> Prop} (hB:∀ b,B b -> b < w.heap.size) (hG:(∀ g cs,look G g = some cs -> R (FH w) B w noMu (.rc cs) (.pointer (some ⟨g,0,none⟩))) /\ GEx G w) {g:Nat} {c:Zda} (hs:SatC P G g c) {args:List V} {res:Res} (hr:c Res args some = some res) (hv:res.v = .val .bool true) (ho:res.outs = []) {vs:Array Value} (hmv:res.mvs = []:=by rfl)
  (hR:RL (FH w) B w noMu args vs.toList) {fn:Func} (hf:P.funcs[g]? = some fn) (hb:fn.body.isSome = true) (hn:(fn.name == "runtime.NumGoroutine") = false) :
  Calls P g vs w fun e w'=>e = .returned (.bool true) /\ Below w.heap.size w w':=by
 obtain ⟨avs,res',hm,hsat,e⟩:=hs Res args some res hr
 cases e
 rw [ho] at hm
 have hd:=hsat w (FH w) B (fun _=>none) (fun _ _=>False) vs (fun _ h=>h) hB hG
  ⟨fun b h=>(h.elim (fun ⟨i,q,ad,h,_⟩=>(nomatch h)) (fun ⟨_,h⟩=>h.elim)),fun i j q q' ad ad' h=>(nomatch h),fun i j b h=>h.elim,fun i j q ad h=>(nomatch h)⟩ (argR_vals args avs 0 vs.toList hm hmv hR)
 have henter:(callFunc g vs).run P w = .ok (.enter g vs) w:=by
  obtain ⟨body,hbo⟩:=Option.isSome_iff_exists.1 hb
  have h1:¬ fn.name = "runtime.NumGoroutine":=by simpa using hn
  simp [callFunc,hf,h1,hbo]
 rcases hd with ⟨_,hc⟩ | ⟨v,w',h1,_⟩
 · refine hc.mono fun e w' ⟨v,he,F,μ,k⟩=>?_
   subst he
   have hval:=k.val
   rw [hv] at hval
   simp only [R,Ty.agg,RC] at hval
   cases hval
   refine ⟨rfl,k.ext.os,k.ext.tape,k.ext.output,k.ext.size,fun b hlt=>k.ext.block b hlt ?_⟩
   rintro (⟨i,q,ad,h,_⟩ | ⟨_,h⟩)
   · cases h
   · exact h
 · rw [henter] at h1; cases h1
theorem satC_none {g:Nat} {ps:List PT} {ros:List (ResultVar × RO)} {f:D (Zdt (ps.map PT.ty)) -> Option (D (Zdt (ros.map (·.2.ty) ++ Zdg ps)))} (h:∀ x,f x = none):SatC P G g (entry ps ros f):=fun ρ args K r e=>by
 unfold entry at e
 split at e
 · rw [h] at e; cases e
 · cases e
theorem satC_G {g:Nat} {c:Zda} (h:SatC P [] g c):SatC P G g c:=fun ρ args K r e=>by
 obtain ⟨avs,res,h1,h2,h3⟩:=h ρ args K r e
 exact ⟨avs,res,h1,fun w A B io nb vs hA hB _ hio ha=>(h2 w A B io nb vs hA hB ⟨fun g cs e=>(nomatch e),fun g cs e=>(nomatch e)⟩ hio ha).mono fun v w' ⟨F,μ,k⟩=>⟨F,μ,{ k with ext:=⟨k.ext.os,k.ext.tape,k.ext.output,k.ext.size,k.ext.block,fun _=>k.ext.drawn rfl⟩ }⟩,h3⟩
theorem satC_lim {g:Nat} {ps:List PT} {ros:List (ResultVar × RO)} {f:Nat -> D (Zdt (ps.map PT.ty)) -> Option (D (Zdt (ros.map (·.2.ty) ++ Zdg ps)))} (h:∀ k,SatC P G g (entry ps ros (f k))):SatC P G g (entry ps ros fun x=>lim fun k=>f k x):=fun ρ args K r e=>by
 unfold entry at e
 split at e
 · rename_i x hx
   obtain ⟨y,hy,hK⟩:=Zd0 e
   obtain ⟨k,hk⟩:=lim_some hy
   refine h k ρ args K r ?_
   unfold entry
   rw [hx]
   simp only
   rw [hk]; exact hK
 · cases e
theorem EnvC.nilG {L:List (Nat × TL)} (h:(L.all fun p=>layOk P L p.1 p.2) = true) (hG:(G.all fun p=>p.2.all Zep) = true):EnvC P { L:=L,G:=G,C:=[] } :=
 ⟨⟨⟨fun f d e=>(nomatch e)⟩,lays_ok h⟩,fun f d e=>(nomatch e),fun g cs e=>by
   rw [List.all_eq_true] at hG
   exact hG (g,cs) (look_of_mem e)⟩
end
theorem okE_cons {L:List (Nat × TL)} {G:List (Nat × List V)} {C:List (Nat × Zda)} {g:Nat} {c:Zda} (h:Env.ok { L:=L,G:=G,C:=C }) (hn:Natu c):Env.ok { L:=L,G:=G,C:=(g,c) :: C } :=
 ⟨fun f d e=>by
  have e':look ((g,c) :: C) f = some d:=e
  rw [look_consU] at e'
  split at e'
  · cases e'; exact hn
  · exact h.nat f d e'⟩
section
variable {E:Env} {A:Ann} {ρ:Type}
def forkLhs (E:Env) (A:Ann) (c:Code) (s:St):List (Option St):=match c with
 | .region id ops true=>match look A.fk id with
   | some p=>p.1.lin.tail.map fun o=>Ze2 E ops o [] (frzS p.2.2.2 s).n (frzS p.2.2.2 s) (fun s=>some (canon A.kp p.2.2.1 s))
   | none=>[]
 | _=>[]
def forkRhs (E:Env) (A:Ann) (c:Code) (s:St):List (Option St):=match c with
 | .region id ops true=>match look A.fk id with
   | some p=>p.1.lin.tail.map fun _=>Ze2 E ops (p.1.lin.headD []) [] (frzS p.2.2.2 s).n (frzS p.2.2.2 s) (fun s=>some (canon A.kp p.2.2.1 s))
   | none=>[]
 | _=>[]
def forkE (E:Env) (A:Ann) (c:Code) (s:St) (κ:Kt ρ):Option ρ:=match c with
 | .region id ops true=>match look A.fk id with
   | some p=>Ze2 E ops (p.1.lin.headD []) [] (frzS p.2.2.2 s).n (frzS p.2.2.2 s) (fun s=>κ .normal (canon A.kp p.2.2.1 s))
   | none=>none
 | _=>none
def orC (E:Env) (A:Ann) (c:Code) (s:St) (κ:Kt ρ):Option ρ:=match c with
 | .region id ops true=>match look A.fk id with
   | some p=>orP E A ops p s (κ .normal)
   | none=>none
 | _=>none
theorem forkL_of {ops:Array Oper} {base:Nat} {s:St} {C:St -> Option St} {o0:List (Nat × Bool)}:∀ (l:List (List (Nat × Bool))),(l.map fun o=>Ze2 E ops o [] base s C) = (l.map fun _=>Ze2 E ops o0 [] base s C) -> forkL E ops base s C o0 l
 | [],_=>trivial
 | x :: r,h=>by
   simp only [List.map_cons,List.cons.injEq] at h
   exact ⟨h.1,forkL_of r h.2⟩
theorem orK_eq {kp live:List Nat} {ops:Array Oper} {t:Sc} {base:Nat} {s:St} {K:St -> Option ρ}
  (h:(t.lin.tail.map fun o=>Ze2 E ops o [] base s (fun s=>some (canon kp live s))) = (t.lin.tail.map fun _=>Ze2 E ops (t.lin.headD []) [] base s (fun s=>some (canon kp live s)))) :
  orK E kp live ops t base s K = Ze2 E ops (t.lin.headD []) [] base s (fun s=>K (canon kp live s)):=by
 unfold orK
 cases hl:t.lin with
 | nil=>exact absurd hl (lin_ne t)
 | cons o0 r =>
   rw [hl] at h
   simp only [List.tail_cons,List.headD_cons] at h ⊢
   rw [if_pos (forkL_of r h)]
theorem Zgy {c:Code} {s:St} {κ:Kt ρ} (X:List (Option St)) (h:forkLhs E A c s = X) (h':forkRhs E A c s = X):hide (fun s=>orC E A c s κ) s = forkE E A c s κ:=by
 have h:forkLhs E A c s = forkRhs E A c s:=h.trans h'.symm
 rw [hide_eq]
 simp only [orC]
 unfold forkE
 split
 · rename_i id ops
   split
   · rename_i p hp
     simp only [forkLhs,forkRhs,hp] at h
     simp only [orP]
     rw [orK_eq h]
   · rfl
 · rfl
def condsK {R:Type} (l:List Bool) (x:Option R):Option R:=l.foldr (fun b k=>iteB b k none) x
def permK (l:List Bool) (p:List Nat):List Bool:=p.map fun i=>l.getD i true
def permOk (n:Nat) (p:List Nat):Bool:=(List.range n).all fun i=>p.contains i
theorem condsK_eq {R:Type} (x:Option R):∀ l:List Bool,condsK l x = if l.all id = true then x else none
 | []=>rfl
 | b :: l=>by
   show iteB b (condsK l x) none = _
   rw [condsK_eq x l]
   cases b <;> simp [iteB]
theorem condsK_perm {R:Type} {x:Option R} {l:List Bool} {p:List Nat} (h:permOk l.length p = true):condsK (permK l p) x = condsK l x:=by
 rw [condsK_eq,condsK_eq]
 have:(permK l p).all id = l.all id:=by
  rw [Bool.eq_iff_iff,List.all_eq_true,List.all_eq_true]
  constructor
  · intro hp b hb
    obtain ⟨i,hi⟩:=List.getElem?_of_mem hb
    have hlt:=(List.getElem?_eq_some_iff.1 hi).1
    unfold permOk at h
    rw [List.all_eq_true] at h
    have:=h i (List.mem_range.2 hlt)
    refine hp b (List.mem_map.2 ⟨i,by simpa using this,?_⟩)
    rw [List.getD_eq_getElem?_getD,hi]; rfl
  · intro hl b hb
    obtain ⟨i,_,rfl⟩:=List.mem_map.1 hb
    rw [List.getD_eq_getElem?_getD]
    cases hi:l[i]? with
    | none=>rfl
    | some c=>exact hl c (List.mem_of_getElem? hi)
 rw [this]
theorem join_forkP {c:Code} {s:St} {κ:Kt ρ} (l:List Bool) (x:Option St) (ps:List (List Nat)) (hp:ps.all (permOk l.length) = true) (h:forkLhs E A c s = ps.map fun p=>condsK (permK l p) x) (h':forkRhs E A c s = ps.map fun _=>condsK l x) :
  hide (fun s=>orC E A c s κ) s = forkE E A c s κ:=by
 refine Zgy _ h (h'.trans (List.map_congr_left fun p hp'=>?_))
 rw [List.all_eq_true] at hp
 exact (condsK_perm (hp p hp')).symm
end
end Go.E
namespace Go.E
open Go Go.RowKit
theorem glob_strs {H:Type} {enc:TypeId × Value -> H} {P:Program} {w:World} {base:Nat} {sp:Nat -> Bool} {held:Bool} {t e:TypeId} {fuel:Nat} {cs:List Value} {p:List MemPlace} (ss:List ByteArray) (ht:P.underlying t = some (.slice e)) (he:P.underlying e = some .string)
  (hc:P.cellsOf e = 1) (hne:0 < ss.length) (h:DataW.trod enc P w base sp held fuel t cs = some (.slice (ss.map fun s=>.lit (.string s.data.toList)) [],p)):RC (FH w) w (.sl .str) ss cs:=by
 obtain ⟨a,cap,hcs,hl,hel⟩:=open_row ht hc h
 rw [List.length_map] at hcs hl
 have one:∀ i s,ss[i]? = some s -> w.cell? (a.add i) = some (.string s):=fun i s hs=>by
  obtain ⟨v,n,q,hv,hd⟩:=hel i (.lit (.string s.data.toList)) (by rw [List.getElem?_map,hs]; rfl)
  obtain ⟨s',e1,e2,_⟩:=DataW.trod_string he hd
  simp only [Prod.mk.injEq,DataW.lit.injEq,Lit.string.injEq] at e2
  have e3:s' = s:=by
   cases s'; cases s
   simp only [ByteArray.mk.injEq]
   exact Array.toList_inj.1 e2.1.symm
  subst e3
  obtain rfl:v = .string s':=by simpa using e1
  exact hv
 have h0:=one 0 ss[0] (List.getElem?_eq_getElem hne)
 have ha:a.add 0 = a:=by simp [Addr.add]
 rw [ha] at h0
 obtain ⟨s1,s2⟩:=cell_block h0
 simp only [RC]
 refine ⟨some a,cap,hcs,hl,fun e=>(nomatch e),fun ad e _=>?_⟩
 cases e
 refine ⟨s1,s2,fun i x hx=>⟨[.string x],by simp only,fun j v hj=>?_⟩⟩
 have:=one i x hx
 obtain ⟨b,o,sp⟩:=a
 simp at s1; subst s1
 rw [Zd8] at this
 cases j with
 | zero =>
   simp at hj; subst hj
   simpa [Ty.width] using this
 | succ j=>simp at hj
end Go.E
namespace Go.E
open Go Go.RowKit Go.Shelf Go.Proofs
def atoiC (s:ByteArray):Option (Int × Bool):=if s.size <= 281474976710656 then match Lib.atoiAll s.data.toList with
    | .ok v=>some (v,false)
    | .range=>some (Lib.atoiSat s.data.toList,true)
    | _=>some (0,true)
 else none
def itoaC (n:Int):Option ByteArray:=if -9223372036854775808 <= n /\ n <= 9223372036854775807 then some ⟨(Lib.itoa n).toArray⟩ else none
section
variable {P:Program} {G:List (Nat × List V)} {A B:Nat -> Prop} {w w':World} {io:Nat -> Option MB} {nb:Nat -> Nat -> Prop} {S:Prop}
theorem res_flat {res:Res} {v:Value} (hb:res.bs = []) (ho:res.outs = []) (hA:∀ b,A b -> b < w.heap.size) (hio:IoOk A B w io nb) (hx:Below w.heap.size w w') (hs:S -> w.drawn <= w'.drawn) (hv:R A B w' noMu res.v v):ResR S A B w io nb res w' v A noMu where
 ext:=⟨hx.os,hx.tape,hx.output,hx.size,fun k hk _=>hx.block k hk,hs⟩
 fz b hb:=.inl hb
 val:=hv
 bs i y h:=by rw [hb] at h; simp at h
 dom i _:=rfl
 bsInj i j q q' ad ad' hi:=by rw [hb] at hi; simp at hi
 outs i y h:=by rw [ho] at h; simp at h
 outsF b hb _:=(hio.apart b (.inl hb)).1
 deep:=⟨fun _ _=>False,fun i x q h=>by rw [hb] at h; simp at h,fun i c h=>by rw [hb] at h; simp at h,fun i j c h=>by rw [hb] at h; simp at h⟩
theorem sat_one {g:Nat} {τ:Ty} (hτ:τ.agg = false) (ros:List (ResultVar × RO)) (f:D (Zdt [τ]) -> Option (D (Zdt (ros.map (·.2.ty) ++ Zdg [.val τ]))))
  (hres:∀ z,(Zfo [.val τ] ros z).bs = [] /\ (Zfo [.val τ] ros z).outs = [] /\ (Zfo [.val τ] ros z).mvs = [] /\ (Zfo [.val τ] ros z).offs = [])
  (hrun:∀ (x:D τ) z,f x = some z -> ∀ (A B:Nat -> Prop) (c:Value) (w:World),RC A w τ x [c] ->
   (∀ g cs,look G g = some cs -> R A B w noMu (.rc cs) (.pointer (some ⟨g,0,none⟩))) /\ GEx G w ->
   Does P g #[c] w fun v w'=>Below w.heap.size w w' /\ (G = [] -> w.drawn <= w'.drawn) /\ R A B w' noMu (Zfo [.val τ] ros z).v v) :
  SatC P G g (entry [.val τ] ros f):=by
 intro ρ args K r h
 unfold entry at h
 split at h
 case h_2=>cases h
 rename_i x hx
 obtain ⟨z,hz,hK⟩:=Zd0 h
 obtain ⟨r1,r2,r3,r4⟩:=hres z
 have hm:=match_ok (offs:=[]) (o:=[]) [.val τ] 0 args x hx (mvs:=[]) (fun j _=>by simp [keys]) (fun j _=>rfl) (fun j _=>by simp [mvsK])
 refine ⟨avsOf [.val τ] args,Zfo [.val τ] ros z,by rw [r2,r3,r4]; exact hm,?_,hK⟩
 obtain ⟨v1,l1,rfl,k1,hx2⟩:=Zfg hx
 cases l1 with
 | cons _ _=>cases hx2
 | nil =>
   cases v1 with
   | val σ1 x1 =>
     obtain ⟨e1,e1'⟩:=Zcb k1
     cases e1
     intro w A B io nb vs hA hB hglob hio harg
     obtain ⟨vl,rfl⟩:∃ l:List Value,vs = l.toArray:=⟨vs.toList,by simp⟩
     simp only [avsOf,avOf] at harg
     match vl,harg with
     | [c1],harg =>
       have ha1:R A B w noMu (.val τ x1) c1:=harg.1
       simp only [R,hτ] at ha1
       have hz':f x1 = some z:=by
        have q:(x1:D (Zdt [τ])) = x:=e1'.symm
        rw [q]; exact hz
       exact (hrun x1 z hz' A B c1 w ha1 hglob).mono fun v w' ⟨b1,b2,b3⟩=>⟨A,noMu,res_flat r1 r2 hA hio b1 b2 b3⟩
   | _=>cases k1
theorem cell_of_glob {A B:Nat -> Prop} {w:World} (hG:(∀ g cs,look G g = some cs -> R A B w noMu (.rc cs) (.pointer (some ⟨g,0,none⟩))) /\ GEx G w) {g:Nat} {cs:List V} (hg:look G g = some cs) :
  ∃ us e p vs,w.heap[g]? = some (.cells us e p) /\ us.size = cs.length /\ RL A B w noMu cs vs /\ Zdz w g 0 vs:=by
 have h1:=hG.1 g cs hg
 simp only [R] at h1
 obtain ⟨ad,vs,e1,e2,e3,e4,e5⟩:=h1
 cases e1
 obtain ⟨us,e,p,h2,h3⟩:=hG.2 g cs hg
 exact ⟨us,e,p,vs,h2,h3,e4,e5⟩
theorem RL_len {A B:Nat -> Prop} {w:World} {μ:Mu}:∀ {cs:List V} {vs:List Value},RL A B w μ cs vs -> cs.length = vs.length
 | [],[],_=>rfl
 | _ :: _,_ :: _,h=>by simp only [RL] at h; simp [RL_len h.2]
 | [],_ :: _,h=>h.elim
 | _ :: _,[],h=>h.elim
theorem RL_ints {A B:Nat -> Prop} {w:World} {μ:Mu} {k:IntKind}:∀ {zs:List Int} {vs:List Value},RL A B w μ (zs.map fun z=>.val (.int k) z) vs -> vs = zs.map fun z=>.int k z
 | [],[],_=>rfl
 | z :: zs,v :: vs,h=>by
   simp only [List.map_cons,RL,R,Ty.agg,RC,List.cons.injEq,and_true] at h
   rw [RL_ints h.2,h.1]; rfl
 | [],_ :: _,h=>h.elim
 | _ :: _,[],h=>h.elim
theorem tab_of_glob {A B:Nat -> Prop} {w:World} (hG:(∀ g cs,look G g = some cs -> R A B w noMu (.rc cs) (.pointer (some ⟨g,0,none⟩))) /\ GEx G w) {g:Nat} {k:IntKind} {zs:List Int} {name:String} (hg:look G g = some (zs.map fun z=>.val (.int k) z)) (hn:P.globalNamed name = some g):Lib.TabIs P w name k zs:=by
 obtain ⟨us,e,p,vs,h1,h2,h3,h4⟩:=cell_of_glob hG hg
 have hv:=RL_ints h3
 have hl:=RL_len h3
 unfold Lib.TabIs World.var?
 rw [hn]
 simp only [Option.bind_some,h1]
 congr 1
 apply Array.ext
 · simp [h2]
 · intro i hi hi'
   have hi2:i < vs.length:=by omega
   have hc:=h4 i vs[i] (List.getElem?_eq_getElem hi2)
   have hc2:us[i]? = some vs[i]:=by simpa [World.cell?,h1] using hc
   rw [Array.getElem?_eq_getElem hi] at hc2
   have hc3:=Option.some.inj hc2
   rw [hc3]; simp [hv]
theorem itoa_sat {ρ:Ren} (L:LaysM.n171 P ρ) {gt:Nat} (hg:look G gt = some (Lib.pow10Tab.map fun z=>.val (.int .u64) z)) (hn:P.globalNamed "internal/strconv.uint64pow10" = some gt) :
  SatC P G (ρ.f 171) (entry [.val (.int .i64)] [(.tmp 0,.val .str)] itoaC) :=
 sat_one (τ:=.int .i64) rfl [(.tmp 0,.val .str)] itoaC (fun z=>⟨rfl,rfl,rfl,rfl⟩) fun x z hz A B c w hc hG=>by
  unfold itoaC at hz
  split at hz
  case isFalse=>cases hz
  rename_i hb
  cases hz
  simp only [RC,List.cons.injEq,and_true] at hc
  subst hc
  refine .inl ⟨enters_of L.f171 (by kernel_rfl) rfl _ _,?_⟩
  refine (Any.strconv_Itoa L x hb.1 hb.2 w (tab_of_glob hG hg hn)).mono ?_
  rintro e w' ⟨rfl,k,os,rfl⟩
  refine ⟨_,rfl,?_,fun _=>Nat.le_add_right _ _,?_⟩
  · refine ⟨rfl,rfl,rfl,by simp [Sort.grow,World.drewN],fun i hi=>?_⟩
    simp only [Sort.grow,World.drewN]
    rw [Array.getElem?_append_left hi]
  · simp [Zfo,Zb1,R,Ty.agg,RC]; rfl
theorem atoi_sat {ρ:Ren} (L:LaysC.n172 P ρ) (hs:look G (ρ.g 15) = some [.val .err true]) (hr:look G (ρ.g 16) = some [.val .err true]) :
  SatC P G (ρ.f 172) (entry [.val .str] [(.tmp 0,.val (.int .i64)),(.tmp 0,.val .err)] atoiC) :=
 sat_one (τ:=.str) rfl [(.tmp 0,.val (.int .i64)),(.tmp 0,.val .err)] atoiC (fun z=>⟨rfl,rfl,rfl,rfl⟩) fun x z hz A B c w hc hG=>by
  have hGne:G = [] -> w.drawn <= w.drawn:=fun _=>Nat.le_refl _
  have hne:G ≠ []:=fun e=>by rw [e] at hs; cases hs
  have gl:∀ {g:Nat},look G g = some [.val .err true] -> ∃ ev,w.cell? ⟨g,0,none⟩ = some ev /\ (ev = .nilIface ∨ ∃ te pe,ev = .iface te pe):=fun {g} hg=>by
   obtain ⟨us,e,p,vs,h1,h2,h3,h4⟩:=cell_of_glob hG hg
   match vs,h3 with
   | [v],h3 =>
     simp only [RL,R,Ty.agg,RC] at h3
     obtain ⟨⟨v',e1,_,e3⟩,_⟩:=h3
     cases e1
     exact ⟨v,h4 0 v rfl,.inr (e3 trivial)⟩
  unfold atoiC at hz
  split at hz
  case isFalse=>cases hz
  rename_i hb
  simp only [RC,List.cons.injEq,and_true] at hc
  subst hc
  refine .inl ⟨enters_of L.f172 (by kernel_rfl) rfl _ _,?_⟩
  split at hz
  · rename_i v hv
    cases hz
    refine (Any.strconv_Atoi_ok L x (by omega) v hv w).mono ?_
    rintro e w' ⟨rfl,hw⟩
    refine ⟨_,rfl,?_,fun e=>absurd e hne,?_⟩
    · rcases hw with rfl | ⟨t,rfl⟩
      · exact Below.refl _ _
      · exact Lib.bytesWorld_below _ _ _
    · simp [Zfo,Zb1,R,RL,Ty.agg,RC]; exact ⟨rfl,rfl⟩
  · rename_i hv
    cases hz
    obtain ⟨ev,c1,c2⟩:=gl hr
    refine (Any.strconv_Atoi_range L x hb hv ev w c1 c2).mono ?_
    rintro e w' ⟨N,rfl,_,_,hw⟩
    refine ⟨_,rfl,hw,fun e=>absurd e hne,?_⟩
    simp [Zfo,Zb1,R,RL,Ty.agg,RC]; exact ⟨rfl,rfl⟩
  · rename_i hv1 hv2
    cases hz
    obtain ⟨ev,c1,c2⟩:=gl hs
    refine (Any.strconv_Atoi_syntax L x hb (by
     cases hh:Lib.atoiAll x.data.toList with
     | ok v=>exact absurd hh (hv1 v)
     | range=>exact absurd hh hv2
     | _=>rfl) ev w c1 c2).mono ?_
    rintro e w' ⟨N,rfl,_,_,hw⟩
    refine ⟨_,rfl,hw,fun e=>absurd e hne,?_⟩
    simp [Zfo,Zb1,R,RL,Ty.agg,RC]; exact ⟨rfl,rfl⟩
end
end Go.E
namespace Go.E
open Go Go.RowKit Go.Shelf Go.Proofs Go.Sort
def sortC {α:Type} (cf:α -> α -> Int) (l:List α):Option (List α) :=
 open Classical in if h:l.length < 4611686018427387904 /\ ∃ r:List α,r.Perm l /\ r.Pairwise (fun a b=>cf a b < 0) then some (Classical.choose h.2) else none
theorem Zkk {α:Type} {lt:α -> α -> Prop}:∀ (l r:List α),l.Perm r -> l.Pairwise (fun a b=>¬ lt b a) -> r.Pairwise lt -> l = r
 | [],r,h,_,_=>(List.nil_perm.1 h).symm
 | a :: t,[],h,_,_=>by simp at h
 | a :: t,b :: s,h,h1,h2=>by
   have hab:a = b:=by
    rcases List.mem_cons.1 (h.subset (List.mem_cons_self (a:=a))) with e | e
    · exact e
    · rcases List.mem_cons.1 (h.symm.subset (List.mem_cons_self (a:=b))) with f | f
      · exact f.symm
      · exact absurd ((List.pairwise_cons.1 h2).1 a e) ((List.pairwise_cons.1 h1).1 b f)
   subst hab
   rw [Zkk t s ((List.perm_cons _).1 h) (List.pairwise_cons.1 h1).2 (List.pairwise_cons.1 h2).2]
theorem sortC_some {α:Type} {cf:α -> α -> Int} {l r:List α} (h:sortC cf l = some r):l.length < 4611686018427387904 /\ r.Perm l /\ r.Pairwise (fun a b=>cf a b < 0):=by
 unfold sortC at h
 split at h
 · rename_i hh
   have:=Classical.choose_spec hh.2
   cases h
   exact ⟨hh.1,this⟩
 · cases h
theorem sortC_eq {α:Type} {cf:α -> α -> Int} (hO:SWO (ltOf cf)) {l r:List α} (hl:l.length < 4611686018427387904) (hp:r.Perm l) (hs:r.Pairwise (fun a b=>cf a b < 0)):sortC cf l = some r:=by
 unfold sortC
 rw [dif_pos ⟨hl,r,hp,hs⟩]
 have h:=Classical.choose_spec (⟨r,hp,hs⟩:∃ r:List α,r.Perm l /\ r.Pairwise (fun a b=>cf a b < 0))
 congr 1
 refine Zkk _ _ (h.1.trans hp.symm) (h.2.imp fun {a b} hab hba=>?_) hs
 have h1:=hO.trans a b a (by simpa [ltOf] using hab) (by simpa [ltOf] using hba)
 rw [hO.irrefl] at h1; cases h1
theorem RC_one {F:Nat -> Prop} {w:World}:∀ {τ:Ty} {x:D τ} {cs:List Value},RC F w τ x cs -> ∀ v ∈ cs,v.oneCell' = true:=by
 intro τ
 induction τ with
 | int k=>intro x cs h v hv; simp only [RC] at h; subst h; simp at hv; subst hv; rfl
 | bool=>intro x cs h v hv; simp only [RC] at h; subst h; simp at hv; subst hv; rfl
 | str=>intro x cs h v hv; simp only [RC] at h; subst h; simp at hv; subst hv; rfl
 | err =>
   intro x cs h v hv
   simp only [RC] at h
   obtain ⟨u,rfl,h1,h2⟩:=h
   simp at hv; subst hv
   cases hx:(x:Bool) with
   | false=>rw [h1 hx]; rfl
   | true=>obtain ⟨t,y,e⟩:=h2 hx; rw [e]; rfl
 | unit=>intro x cs h v hv; simp only [RC] at h; subst h; simp at hv
 | pr a b iha ihb =>
   intro x cs h v hv
   simp only [RC] at h
   obtain ⟨c,d,rfl,h1,h2⟩:=h
   rcases List.mem_append.1 hv with h | h
   · exact iha h1 v h
   · exact ihb h2 v h
 | sl e ih=>intro x cs h v hv; simp only [RC] at h; obtain ⟨a,cap,rfl,_⟩:=h; simp at hv; subst hv; rfl
 | q =>
   intro x cs h v hv
   simp only [RC] at h
   cases h
   simp only [List.mem_cons,List.not_mem_nil,or_false] at hv
   rcases hv with rfl | rfl | rfl | rfl | rfl | rfl <;> rfl
section
variable {P:Program} {G:List (Nat × List V)} {A B:Nat -> Prop} {w w':World} {io:Nat -> Option MB} {nb:Nat -> Nat -> Prop} {τ:Ty}
abbrev El (A:Nat -> Prop) (w:World) (τ:Ty):={ p:D τ × List Value // RC A w τ p.1 p.2 }
theorem row_els {l:List (D τ)} {ad:Addr} (h:Zgu A w τ l ad):∃ d:List (El A w τ),d.map (fun p=>p.1.1) = l /\ ∀ i (p:El A w τ),d[i]? = some p -> Zdz w ad.block (ad.off + i * τ.width) p.1.2:=by
 suffices H:∀ (m:List (D τ)) (k:Nat),(∀ i x,m[i]? = some x -> ∃ c,RC A w τ x c /\ Zdz w ad.block (ad.off + (k + i) * τ.width) c) ->
   ∃ d:List (El A w τ),d.map (fun p=>p.1.1) = m /\ ∀ i (p:El A w τ),d[i]? = some p -> Zdz w ad.block (ad.off + (k + i) * τ.width) p.1.2 by
  obtain ⟨d,h1,h2⟩:=H l 0 (fun i x hx=>by rw [Nat.zero_add]; exact h i x hx)
  exact ⟨d,h1,fun i p hp=>by have:=h2 i p hp; rwa [Nat.zero_add] at this⟩
 intro m
 induction m with
 | nil=>intro k _; exact ⟨[],rfl,fun i p hp=>by simp at hp⟩
 | cons x m ih =>
   intro k hm
   obtain ⟨c,c1,c2⟩:=hm 0 x rfl
   obtain ⟨d,d1,d2⟩:=ih (k + 1) (fun i y hy=>by
    have:=hm (i + 1) y (by simpa using hy)
    rwa [show k + (i + 1) = k + 1 + i by omega] at this)
   refine ⟨⟨(x,c),c1⟩ :: d,by simp [d1],fun i p hp=>?_⟩
   cases i with
   | zero=>simp at hp; subst hp; exact c2
   | succ i =>
     have:=d2 i p (by simpa using hp)
     rwa [show k + 1 + i = k + (i + 1) by omega] at this
theorem swo_map {α β:Type} {cf:α -> α -> Int} (hO:SWO (ltOf cf)) (f:β -> α):SWO (ltOf fun x y=>cf (f x) (f y)) where
 irrefl x:=hO.irrefl (f x)
 trans x y z:=hO.trans (f x) (f y) (f z)
 ntrans x y z:=hO.ntrans (f x) (f y) (f z)
theorem grown_of_ext {w w':World} (h1:w'.os = w.os) (h2:w'.tape = w.tape) (h3:w'.output = w.output) (h4:w.heap.size <= w'.heap.size) (h5:∀ k,k < w.heap.size -> w'.heap[k]? = w.heap[k]?) (h6:w.drawn <= w'.drawn) :
  ∃ q os',w' = grow (w.drewN q) os':=by
 refine ⟨w'.drawn - w.drawn,w'.heap.extract w.heap.size w'.heap.size,?_⟩
 cases w with
 | mk heap tape drawn os output =>
 cases w' with
 | mk heap' tape' drawn' os' output' =>
   simp only at h1 h2 h3 h4 h5 h6
   subst h1 h2 h3
   simp only [grow,World.drewN,World.mk.injEq,and_true,true_and]
   refine ⟨?_,by omega⟩
   apply Array.ext_getElem?
   intro k
   by_cases hk:k < heap.size
   · rw [h5 k hk,Array.getElem?_append_left hk]
   · rw [Array.getElem?_append_right (by omega)]
     simp only [Array.getElem?_extract]
     by_cases hk2:k < heap'.size
     · rw [if_pos (by omega)]; congr 1; omega
     · rw [if_neg (by omega),Array.getElem?_eq_none (by omega)]
theorem keep_sort {α:Type} [Inhabited α] {enc:α -> List Value} {k:Nat} {blk off m:Nat} {dk:Array α} {os:Array Obj} (hA:∀ b,A b -> b < w.heap.size /\ b ≠ blk):Keep A w (sortWorldK enc k w blk off m dk os):=by
 intro b o v hb e
 obtain ⟨h1,h2⟩:=hA b hb
 unfold sortWorldK
 rw [cell?_grow _ _ _ (by rw [size_putRowK]; exact h1),cell?_putRowK_other _ _ _ _ _ _ _ h2]
 exact e
theorem cmpLays_of {cf:D τ -> D τ -> Int} (hτ:τ.agg = true) {gc:Nat} {c:Zda} (hc:SatC P [] gc c) (hr:∀ x y:D τ,c Res [.val τ x,.val τ y] some = some { v:=.val (.int .i64) (cf x y) })
  (eg:∀ args w,(callFunc gc args).run P w = .ok (.enter gc args) w) [Inhabited (El A w τ)] (blk off size:Nat) (hblk:blk < w.heap.size) (hA:∀ b,A b -> b < w.heap.size /\ b ≠ blk) :
  CmpLays P gc #[] (fun p:El A w τ=>p.1.2) τ.width (fun x y=>cf x.1.1 y.1.1) blk off size w:=by
 intro m os dk hs x y
 have hk:=keep_sort (w:=w) (A:=A) (enc:=fun p:El A w τ=>p.1.2) (k:=τ.width) (blk:=blk) (off:=off) (m:=m) (dk:=dk) (os:=os) hA
 have hsz:=size_sortWorldK_c (fun p:El A w τ=>p.1.2) τ.width w blk off m dk os
 generalize sortWorldK (fun p:El A w τ=>p.1.2) τ.width w blk off m dk os = W at hk hsz ⊢
 obtain ⟨avs,res,hm,hsat,e⟩:=hc Res _ some _ (hr x.1.1 y.1.1)
 cases e
 have hd:=hsat W A (fun _=>False) (fun _=>none) (fun _ _=>False) #[.agg x.1.2.toArray,.agg y.1.2.toArray] (fun b hb=>Nat.lt_of_lt_of_le (hA b hb).1 hsz) (fun _ h=>h.elim) ⟨fun g cs h=>(nomatch h),fun g cs h=>(nomatch h)⟩
  ⟨fun b h=>(h.elim (fun ⟨i,q,ad,h,_⟩=>(nomatch h)) (fun ⟨_,h⟩=>h.elim)),fun i j q q' ad ad' h=>(nomatch h),fun i j b h=>h.elim,fun i j q ad h=>(nomatch h)⟩
  (argR_vals _ avs 0 _ hm rfl (by
   simp only [RL,R,hτ,and_true]
   exact ⟨⟨_,rfl,by simpa using x.2.mono (fun _ h=>h) hk⟩,⟨_,rfl,by simpa using y.2.mono (fun _ h=>h) hk⟩⟩))
 rcases hd with ⟨_,hcalls⟩ | ⟨v,w',h1,_⟩
 · refine hcalls.mono fun e w' ⟨v,he,F,μ,k⟩=>?_
   subst he
   have hval:=k.val
   simp only [R,Ty.agg,RC] at hval
   cases hval
   refine ⟨rfl,grown_of_ext k.ext.os k.ext.tape k.ext.output k.ext.size (fun b hlt=>k.ext.block b hlt ?_) (k.ext.drawn rfl)⟩
   rintro (⟨i,q,ad,h,_⟩ | ⟨_,h⟩)
   · cases h
   · exact h
 · rw [eg] at h1; cases h1
theorem stor_sort {α:Type} [Inhabited α] {enc:α -> List Value} {k:Nat} {blk off m n:Nat} {d dk:Array α} {os:Array Obj} (hH:HoldsK enc k w blk off d) (hblk:blk < w.heap.size) (hs:dk.size = d.size) (h:Stor w blk off n) :
  Stor (sortWorldK enc k w blk off m dk os) blk off n:=by
 intro j hj
 obtain ⟨h1,h2⟩:=h j hj
 by_cases hd:j < dk.size * k
 · have:=holdsK_sortWorldK_c enc k w blk off d dk m os hH hblk hs j (by rw [size_flatK]; exact hd)
   exact ⟨by rw [this.1]; rfl,this.2⟩
 · unfold sortWorldK
   rw [cell?_grow _ _ _ (by rw [size_putRowK]; exact hblk),frozen?_grow _ _ _ (by rw [size_putRowK]; exact hblk)]
   unfold putRowK
   rw [cell?_putRow_other id _ blk off _ ⟨blk,off + j,none⟩ (.inr (.inr (by rw [size_flatK]; simp; omega))),frozen?_putRow]
   exact ⟨h1,h2⟩
theorem holds_els {l:List (El A w τ)} {ad:Addr} [Inhabited (El A w τ)] (hw0:0 < τ.width) (hsp:ad.spot = none) (h:∀ i (p:El A w τ),l[i]? = some p -> Zdz w ad.block (ad.off + i * τ.width) p.1.2) {n:Nat} (hst:Stor w ad.block ad.off n) (hn:l.length * τ.width <= n) :
  HoldsK (fun p:El A w τ=>p.1.2) τ.width w ad.block ad.off l.toArray:=by
 intro j hj
 rw [size_flatK] at hj
 have hj':j < l.length * τ.width:=by simpa using hj
 have hi:j / τ.width < l.length:=(Nat.div_lt_iff_lt_mul hw0).2 hj'
 have hm:j % τ.width < τ.width:=Nat.mod_lt _ hw0
 refine ⟨?_,(hst j (by omega)).2⟩
 rw [get_flatK _ _ _ _ (by simpa using hj')]
 have hp:=h _ _ (List.getElem?_eq_getElem hi)
 have hlen:=l[j / τ.width].2.len
 have hc:=hp (j % τ.width) (l[j / τ.width].1.2[j % τ.width]'(by omega)) (List.getElem?_eq_getElem (by omega))
 rw [Nat.add_assoc,show j / τ.width * τ.width + j % τ.width = j from Nat.div_add_mod' j τ.width] at hc
 rw [hc]
 have e1:l.toArray[j / τ.width]! = l[j / τ.width]:=by
  rw [getElem!_pos l.toArray _ (by simpa using hi)]; simp
 simp only [id,e1]
 congr 1
 rw [getElem!_pos _ _ (by omega)]
theorem sort_does {S:Prop} {ρ:Ren} (L:SlLaysF0.n6 P ρ) (hτ:τ.agg = true) (hw0:0 < τ.width) (aE:∀ w,(isAgg (ρ.t 24)).run P w = .ok true w) (zE:∀ w,(Go.sizeOf (ρ.t 24)).run P w = .ok τ.width w) {cf:D τ -> D τ -> Int} (hO:SWO (ltOf cf))
  (x0:D τ) (c0:List Value) (hx0:∀ F w,RC F w τ x0 c0) {gc:Nat} {c:Zda} (hc:SatC P [] gc c) (hr:∀ x y:D τ,c Res [.val τ x,.val τ y] some = some { v:=.val (.int .i64) (cf x y) })
  (eg:∀ args w,(callFunc gc args).run P w = .ok (.enter gc args) w) {l z:List (D τ)} (hz:sortC cf l = some z) (hA:∀ b,A b -> b < w.heap.size) (hio:IoOk A B w io nb) {q:MB} (hq:io 0 = some q) (hbx:Zd2 A B w noMu (.rows τ l) q) :
  Calls P (ρ.f 6) #[.slice q.a q.len q.cap,.func (.func gc) #[] #[]] w fun e w'=>e = .returned (.tuple #[]) /\ Ext S (IOn io nb) w w' /\ Zd2 A B w' noMu (.rows τ z) q:=by
 obtain ⟨z1,z2,z3⟩:=sortC_some hz
 obtain ⟨b1,b2,b3,b4,b5⟩:=hbx
 by_cases hl:l = []
 · subst hl
   have hze:z = []:=List.perm_nil.1 z2
   subst hze
   rw [b1]
   refine (AnyF.slices_SortFunc_none L q.a q.cap _ w).mono ?_
   rintro e w' ⟨rfl,rfl⟩
   exact ⟨rfl,⟨rfl,rfl,rfl,Nat.le_refl _,fun _ _ _=>rfl,fun _=>Nat.le_refl _⟩,b1,b2,b3,b4,b5⟩
 have hpos:0 < l.length:=List.length_pos_iff.2 hl
 cases ha:q.a with
 | none=>have:=b4 ha; omega
 | some ad =>
   obtain ⟨s1,s2,s3⟩:=b5 ad ha
   obtain ⟨d,d1,d2⟩:=row_els s2
   have hlen:d.length = l.length:=by rw [← d1,List.length_map]
   haveI:Inhabited (El A w τ):=⟨⟨(x0,c0),hx0 A w⟩⟩
   have hble:d.length * τ.width <= q.cap * τ.width:=Nat.mul_le_mul_right _ (by omega)
   have hH:=holds_els hw0 s1 d2 s3 hble
   obtain ⟨blk,off,sp⟩:=ad
   simp only at s1 s3 hH
   subst s1
   have hcell:=hH 0 (by rw [size_flatK]; simp only [List.size_toArray]; exact Nat.mul_pos (by omega) hw0)
   have hblk:blk < w.heap.size:=by
    have:=cell_block hcell.1
    exact this.2
   have hIOb:IOb io blk:=⟨0,q,_,hq,ha,rfl⟩
   have hA':∀ b,A b -> b < w.heap.size /\ b ≠ blk:=fun b hb=>⟨hA b hb,fun e=>(hio.apart blk (.inl hIOb)).1 (e ▸ hb)⟩
   have hcmp:=cmpLays_of (A:=A) (w:=w) hτ hc hr eg blk off d.toArray.size hblk hA'
   have hcall:=AnyQ.slices_SortFunc L τ.width aE zE (fun p:El A w τ=>p.1.2) (fun p=>p.2.len) (fun p=>RC_one p.2) (fun x y=>cf x.1.1 y.1.1) (swo_map hO fun p:El A w τ=>p.1.1) gc #[] blk off q.cap d.toArray w eg hcmp hH hblk (by simpa [hlen] using z1)
   rw [b1,← hlen,show d.length = d.toArray.size by simp]
   refine hcall.mono ?_
   rintro e w' ⟨rfl,d',n,os,p1,p2,rfl⟩
   have hds:d'.size = d.toArray.size:=p1.1
   have hperm:d'.toList.Perm d:=by
    have:=p1.2.2
    have e1:(d'.extract 0 d.toArray.size).toList = d'.toList:=by
     rw [← hds]; simp
    rw [e1] at this
    simpa using this
   have hzl:z = d'.toList.map (fun p=>p.1.1):=by
    refine (Zkk (lt:=fun a b=>cf a b < 0) _ _ ((hperm.map _).trans (by rw [d1]; exact z2.symm)) ?_ z3).symm
    rw [List.pairwise_map,List.pairwise_iff_getElem]
    intro i j hi hj hij
    have hi':i < d'.size:=by simpa using hi
    have hj':j < d'.size:=by simpa using hj
    have:=p2 i j (Nat.zero_le _) hij (by rw [← hds]; exact hj')
    rw [getElem!_pos d' _ hj',getElem!_pos d' _ hi'] at this
    simpa [ltOf] using this
   have hk:=keep_sort (w:=w) (A:=A) (enc:=fun p:El A w τ=>p.1.2) (k:=τ.width) (blk:=blk) (off:=off) (m:=n) (dk:=d') (os:=os) hA'
   have hH':=holdsK_sortWorldK_c (fun p:El A w τ=>p.1.2) τ.width w blk off d.toArray d' n os hH hblk hds
   refine ⟨rfl,⟨rfl,rfl,rfl,size_sortWorldK_c _ _ _ _ _ _ _ _,fun k hk hn=>?_,fun _=>Nat.le_add_right _ _⟩,?_,b2,b3,b4,fun ad he=>?_⟩
   · have hne:k ≠ blk:=fun e=>hn (.inl (e ▸ hIOb))
     unfold sortWorldK
     rw [heap_grow_old _ _ (by rw [size_putRowK]; exact hk)]
     simp [putRowK,putRow,mapBlock,Array.getElem?_modify,Ne.symm hne]
   · rw [b1,hzl,List.length_map,← hlen]; simpa using hds.symm
   · rw [ha] at he; cases he
     refine ⟨rfl,fun i x hx=>?_,stor_sort hH hblk hds s3⟩
     rw [hzl,List.getElem?_map] at hx
     obtain ⟨p,hp,rfl⟩:=Option.map_eq_some_iff.1 hx
     have hi:i < d'.size:=by
      have:=(List.getElem?_eq_some_iff.1 hp).1; simpa using this
     have hpe:d'[i]! = p:=by
      rw [getElem!_pos d' _ hi]
      have:=(List.getElem?_eq_some_iff.1 hp).2; simpa using this
     refine ⟨p.1.2,p.2.mono (fun _ h=>h) hk,fun j v hj=>?_⟩
     have hjl:j < τ.width:=by rw [← p.2.len]; exact (List.getElem?_eq_some_iff.1 hj).1
     have hcl:=(hH'.cell (c:=j) hi hjl).1
     rw [hpe,getElem!_pos _ _ (by rw [p.2.len]; exact hjl),(List.getElem?_eq_some_iff.1 hj).2] at hcl
     exact hcl
theorem sort_sat {ρ:Ren} (L:SlLaysF0.n6 P ρ) (hτ:τ.agg = true) (hw0:0 < τ.width) (aE:∀ w,(isAgg (ρ.t 24)).run P w = .ok true w) (zE:∀ w,(Go.sizeOf (ρ.t 24)).run P w = .ok τ.width w) {cf:D τ -> D τ -> Int} (hO:SWO (ltOf cf))
  (x0:D τ) (c0:List Value) (hx0:∀ F w,RC F w τ x0 c0) {gc:Nat} {c:Zda} (hc:SatC P [] gc c) (hr:∀ x y:D τ,c Res [.val τ x,.val τ y] some = some { v:=.val (.int .i64) (cf x y) })
  {fn:Func} (hf:P.funcs[gc]? = some fn) (hb:fn.body.isSome = true) (hn:(fn.name == "runtime.NumGoroutine") = false) :
  SatC P G (ρ.f 6) (entry [.io τ,.fn gc []] [] fun x=>sortC cf (Zez (τ:=.sl τ) [PT.ty (.fn gc [])] x)):=by
 have eg:∀ args w,(callFunc gc args).run P w = .ok (.enter gc args) w:=fun args w=>by
  obtain ⟨body,hbo⟩:=Option.isSome_iff_exists.1 hb
  have h1:¬ fn.name = "runtime.NumGoroutine":=by simpa using hn
  simp [callFunc,hf,h1,hbo]
 intro ρ' args K r h
 unfold entry at h
 split at h
 case h_2=>cases h
 rename_i x hx
 obtain ⟨z,hz,hK⟩:=Zd0 h
 have hm:=match_ok (offs:=[]) (o:=[0]) (mvs:=[]) [.io τ,.fn gc []] 0 args x hx (fun j _=>by simp [keys]) (fun j _=>rfl) (fun j _=>by simp [mvsK])
 obtain ⟨v1,l1,rfl,k1,hx1⟩:=Zfg hx
 obtain ⟨v2,l2,rfl,k2,hx2⟩:=Zfg hx1
 refine ⟨avsOf [.io τ,.fn gc []] _,Zfo [.io τ,.fn gc []] [] z,hm,?_,hK⟩
 cases l2 with
 | cons _ _=>cases hx2
 | nil =>
 cases v1 with
 | val σ1 x1 =>
   obtain ⟨e1,e1'⟩:=Zcb k1
   cases e1
   have hz0:sortC (α:=D τ) cf x1 = some z:=by
    rw [show x1 = Zez (τ:=.sl τ) (List.map PT.ty [PT.fn gc []]) x from e1'.symm]
    exact hz
   cases v2 with
   | fn g caps =>
     have hcaps:gc = g /\ caps = []:=by
      have k3:(if gc = g then takeCaps [] caps else none) = some ():=k2
      by_cases e:gc = g
      · rw [if_pos e] at k3
        cases caps with
        | nil=>exact ⟨e,rfl⟩
        | cons _ _=>cases k3
      · rw [if_neg e] at k3; cases k3
     obtain ⟨rfl,rfl⟩:=hcaps
     intro w A B io nb vs hA hB hglob hio harg
     obtain ⟨vl,rfl⟩:∃ l:List Value,vs = l.toArray:=⟨vs.toList,by simp⟩
     simp only [avsOf,avOf] at harg
     match vl,harg with
     | [c1,c2],harg =>
       obtain ⟨q,q1,q2,q3⟩:∃ q,io 0 = some q /\ c1 = .slice q.a q.len q.cap /\ Zd2 A B w noMu (.rows τ x1) q:=harg.1
       have h2:R A B w noMu (.fn gc []) c2:=harg.2.1
       simp only [R] at h2
       obtain ⟨cb,rfl,h3⟩:=h2
       have hcb:cb = #[]:=by
        obtain ⟨cb⟩:=cb
        cases cb with
        | nil=>rfl
        | cons _ _=>simp [RL] at h3
       subst hcb
       subst q2
       refine .inl ⟨L.f6.enters rfl _ _,?_⟩
       refine (sort_does (S:=G = []) L hτ hw0 aE zE hO x0 c0 hx0 hc hr eg (l:=x1) (z:=z) hz0 hA hio q1 q3).mono ?_
       rintro e w' ⟨rfl,hext,hbx⟩
       refine ⟨_,rfl,A,noMu,hext,fun b hb=>.inl hb,?_,fun i y h=>?_,fun _ _=>rfl,fun i j q q' ad ad' hi=>?_,fun i y h=>?_,fun b hb _=>(hio.apart b (.inl hb)).1,fun _ _=>False,fun i y q h=>?_,fun i c h=>?_,fun i j c h=>?_⟩
       · exact ⟨#[],rfl,trivial⟩
       · exact absurd h (by simp [Zfo,Zb1])
       · exact absurd hi (by simp [Zfo,Zb1])
       · have h':(i,y) ∈ [(0,Bx.rows τ z)]:=h
         simp at h'
         obtain ⟨rfl,rfl⟩:=h'
         exact ⟨q,q1,hbx⟩
       · exact absurd h (by simp [Zfo,Zb1])
       · exact absurd h (by simp [Zfo,Zb1])
       · exact absurd h (by simp [Zfo,Zb1])
   | _=>cases k2
 | _=>cases k1
end
end Go.E
namespace Go.E
open Go Go.RowKit
section
variable {P:Program} {A B:Nat -> Prop} {w:World} {μ:Mu}
theorem heap_of_var {n:String} {g:Nat} {cs:Array Value} (hg:P.globalNamed n = some g) (hv:w.var? P n = some cs):∃ t p,w.heap[g]? = some (.cells cs t p):=by
 unfold World.var? at hv
 rw [hg] at hv
 simp only [Option.bind_some] at hv
 split at hv
 · rename_i c t p h; cases hv; exact ⟨t,p,h⟩
 · cases hv
theorem rc_of_heap {g:Nat} {us:Array Value} {t:TypeId} {p:Nat × Nat} {vs:List V} (h:w.heap[g]? = some (.cells us t p)) (hB:B g) (hR:RL A B w μ vs us.toList):R A B w μ (.rc vs) (.pointer (some ⟨g,0,none⟩)):=by
 simp only [R]
 refine ⟨⟨g,0,none⟩,us.toList,rfl,rfl,hB,hR,fun j v hj=>?_⟩
 simp only [World.cell?,h,Nat.zero_add]
 simpa using hj
theorem RL_ints_mk {k:IntKind}:∀ zs:List Int,RL A B w μ (zs.map fun z=>.val (.int k) z) (zs.map fun z=>.int k z)
 | []=>by simp only [List.map_nil,RL]
 | z :: zs=>by
   simp only [List.map_cons,RL]
   exact ⟨by simp only [R,Ty.agg,RC],RL_ints_mk zs⟩
theorem RL_err {t:TypeId} {x:Value}:RL A B w μ [.val .err true] [.iface t x]:=by
 simp only [RL,and_true]
 simp only [R,Ty.agg,RC]
 exact ⟨_,rfl,(fun h=>by cases h),fun _=>⟨t,x,rfl⟩⟩
end
end Go.E

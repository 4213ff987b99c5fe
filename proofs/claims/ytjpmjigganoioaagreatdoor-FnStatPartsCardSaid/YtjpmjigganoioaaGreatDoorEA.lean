/- An evaluator of the program's code, and what its values stand for in a world. No condition. -/
import Derived.WalkKit
import Derived.Below
import Derived.Orders
import Derived.Laws.IdiomCopy
import Derived.Laws.StructEq
import Derived.Deep.MidRow
set_option linter.unusedVariables false
noncomputable section
namespace Go.E
open Go
def Zfa:Nat:=2 ^ 38
def bs (l:List Nat):ByteArray:=⟨(l.map UInt8.ofNat).toArray⟩
def iteB {R:Type} (b:Bool) (x y:Option R):Option R:=if b = true then x else y
def bindO {α R:Type} (o:Option α) (f:α -> Option R):Option R:=o.bind f
def addI (k:IntKind) (a b:Int):Int:=k.wrap (a + b)
def subI (k:IntKind) (a b:Int):Int:=k.wrap (a - b)
def mulI (k:IntKind) (a b:Int):Int:=k.wrap (a * b)
def divI (k:IntKind) (a b:Int):Int:=k.wrap (a.tdiv b)
def modI (a b:Int):Int:=a.tmod b
def xorI (k:IntKind) (a b:Int):Int:=k.wrap ((BitVec.ofInt k.bits a ^^^ BitVec.ofInt k.bits b).toNat:Int)
def negI (k:IntKind) (a:Int):Int:=k.wrap (0 - a)
def Zhv (k:IntKind) (a:Int):Int:=k.wrap a
def minI (a b:Int):Int:=if b < a then b else a
def maxI (a b:Int):Int:=if b > a then b else a
def ltI (a b:Int):Bool:=decide (a < b)
def leI (a b:Int):Bool:=decide (a <= b)
def eqI (a b:Int):Bool:=decide (a = b)
def notB (a:Bool):Bool:=!a
def andB (a b:Bool):Bool:=a && b
def eqBo (a b:Bool):Bool:=a == b
def ltS (a b:ByteArray):Bool:=Op.bytesLess a.toList b.toList
def eqS (a b:ByteArray):Bool:=decide (a = b)
def lenS (a:ByteArray):Int:=a.size
def catS (a b:ByteArray):ByteArray:=a ++ b
def cutS (a:ByteArray) (l h:Int):ByteArray:=a.extract l.toNat h.toNat
def atS (a:ByteArray) (i:Int):Option Int:=if 0 <= i then (a.data[i.toNat]?).map fun b=>(b.toNat:Int) else none
def Zgb (a:ByteArray):List Int:=a.data.toList.map fun b=>(b.toNat:Int)
def strOf (l:List Int):ByteArray:=⟨(l.map fun n=>UInt8.ofNat n.toNat).toArray⟩
def lenL {α:Type} (l:List α):Int:=l.length
def atL {α:Type} (l:List α) (i:Int):Option α:=if 0 <= i then l[i.toNat]? else none
def setL {α:Type} (l:List α) (i:Int) (x:α):List α:=l.set i.toNat x
def appL {α:Type} (a b:List α):List α:=a ++ b
def cutL {α:Type} (l:List α) (a b:Int):List α:=(l.take b.toNat).drop a.toNat
def repL {α:Type} (n:Int) (x:α):List α:=List.replicate n.toNat x
def Zfs (l h n:Int):Bool:=decide (0 <= l /\ l <= h /\ h <= n)
def Zek {α:Type} (a b:List α):Bool:=decide (a.length + b.length <= Zfa)
def roomS (a b:ByteArray):Bool:=decide (a.size + b.size <= Zfa)
def roomN (n:Int):Bool:=decide (0 <= n /\ n <= Zfa)
def pickK {α R:Type} (l:List α) (d:Option R) (f:α -> List α -> Option R):Option R:=open Classical in if l.length = 0 then d else if h:∃ r,∀ (j:Nat) (hj:j < l.length),f l[j] (l.eraseIdx j) = some r then some (Classical.choose h) else none
inductive Ty
 | int (k:IntKind) | bool | str | err | unit | pr (a b:Ty) | sl (e:Ty) | q
 deriving DecidableEq
inductive Q
 | mk (kind:Int) (field text:ByteArray) (low high:Int) (parts:List Q)
def Q.kind:Q -> Int | .mk a _ _ _ _ _=>a
def Q.field:Q -> ByteArray | .mk _ a _ _ _ _=>a
def Q.text:Q -> ByteArray | .mk _ _ a _ _ _=>a
def Q.low:Q -> Int | .mk _ _ _ a _ _=>a
def Q.high:Q -> Int | .mk _ _ _ _ a _=>a
def Q.parts:Q -> List Q | .mk _ _ _ _ _ a=>a
abbrev D:Ty -> Type
 | .int _=>Int
 | .bool=>Bool
 | .str=>ByteArray
 | .err=>Bool
 | .unit=>Unit
 | .pr a b=>D a × D b
 | .sl e=>List (D e)
 | .q=>Q
def eqDr:(τ:Ty) -> D τ -> D τ -> Bool
 | .int _,a,b=>decide (a = b)
 | .str,a,b=>decide (a = b)
 | .pr a b,x,y=>eqDr a x.1 y.1 && eqDr b x.2 y.2
 | _,_,_=>false
def getMr {κ τ:Ty}:List (D κ × D τ) -> D κ -> D τ -> D τ
 | [],_,z=>z
 | x :: r,k,z=>if eqDr κ x.1 k = true then x.2 else getMr r k z
def putMr {κ τ:Ty}:List (D κ × D τ) -> D κ -> D τ -> List (D κ × D τ)
 | [],k,y=>[(k,y)]
 | x :: r,k,y=>if eqDr κ x.1 k = true then (k,y) :: r else x :: putMr r k y
def eqK (κ:Ty) (a b:D κ):Bool:=eqDr κ a b
def getM (κ τ:Ty) (l:List (D κ × D τ)) (k:D κ) (z:D τ):D τ:=getMr l k z
def putM (κ τ:Ty) (l:List (D κ × D τ)) (k:D κ) (y:D τ):List (D κ × D τ):=putMr l k y
def Zdt:List Ty -> Ty
 | []=>.unit
 | [a]=>a
 | a :: r=>.pr a (Zdt r)
inductive V
 | undef
 | val (τ:Ty) (x:D τ)
 | nil
 | nilp
 | agg (cs:List V)
 | tup (vs:List V)
 | arr (b:Nat)
 | ptr (b off:Nat)
 | ep (b:Nat) (i:Int) (off:Nat)
 | cut (b:Nat) (lo hi:Int)
 | rp (τ:Ty) (x:D τ)
 | rc (cs:List V)
 | fn (f:Nat) (caps:List V)
 | map (b:Nat)
 | it (b:Nat)
 deriving Inhabited
inductive Bx
 | cs (cs:List V)
 | rows (τ:Ty) (l:List (D τ))
 | fz (τ:Ty) (l:List (D τ))
 | dp (τ:Ty) (l:List (D τ))
 | dpx (τ:Ty) (l:List (D τ)) (k:Int) (x:D τ) (off:Nat) (v:V)
 | dpm (τ:Ty) (l:List (D τ)) (r:Int)
 | mp (κ τ:Ty) (l:List (D κ × D τ))
 | mpx (κ τ:Ty) (l:List (D κ × D τ)) (k:D κ)
 | mpi (κ τ:Ty) (l:List (D κ × D τ))
 | mpe (κ τ:Ty) (l:List (D κ × D τ)) (k:D κ) (y:D τ)
def look {α:Type _}:List (Nat × α) -> Nat -> Option α
 | [],_=>none
 | (k,v) :: r,b=>if k = b then some v else look r b
abbrev Hp:=List (Nat × Option Bx)
def Hp.at (m:Hp) (b:Nat):Option Bx:=match look m b with
 | some (some x)=>some x
 | _=>none
structure St where
 t:List (Nat × V)
 m:Hp
 n:Nat
def St.get (s:St) (k:Nat):V:=match look s.t k with
 | some v=>v
 | none=>.undef
def St.put (s:St) (d:Option Nat) (v:V):St:=match d with
 | some d=>{ s with t:=(d,v) :: s.t }
 | none=>s
inductive TK | int (k:IntKind) | bool | str | sl (e:TypeId) | st (fs:List (Nat × TypeId)) | ptr (e:TypeId) | err | mp (k e:TypeId) | other
structure TL where
 k:TK
 ty:Ty
 zero:List V
def Ty.width:Ty -> Nat
 | .pr a b=>a.width + b.width
 | .q=>6
 | .unit=>0
 | _=>1
def Ty.agg:Ty -> Bool
 | .pr _ _=>true
 | .q=>true
 | _=>false
def Zds:(τ:Ty) -> D τ -> List V
 | .pr a b,x=>Zds a x.1 ++ Zds b x.2
 | .q,x=>[.val (.int .i64) x.kind,.val .str x.field,.val .str x.text,.val (.int .i64) x.low,.val (.int .i64) x.high,.val (.sl .q) x.parts]
 | .unit,_=>[]
 | τ,x=>[.val τ x]
def Zev {τ σ:Ty} (x:D τ):Option (D σ):=if h:τ = σ then some (h ▸ x) else none
def Zhk:(τ:Ty) -> D τ -> Nat -> (σ:Ty) -> Option (D σ)
 | .pr a b,x,off,σ =>
   if off = 0 /\ σ = .pr a b then Zev (τ:=.pr a b) x
   else if off < a.width then Zhk a x.1 off σ else Zhk b x.2 (off - a.width) σ
 | .q,x,off,σ =>
   if off = 0 /\ σ = .q then Zev (τ:=.q) x
   else match off with
    | 0=>Zev (τ:=.int .i64) x.kind
    | 1=>Zev (τ:=.str) x.field
    | 2=>Zev (τ:=.str) x.text
    | 3=>Zev (τ:=.int .i64) x.low
    | 4=>Zev (τ:=.int .i64) x.high
    | 5=>Zev (τ:=.sl .q) x.parts
    | _=>none
 | τ,x,off,σ=>if off = 0 then Zev (τ:=τ) x else none
def Ze0:(τ:Ty) -> D τ -> Nat -> (σ:Ty) -> D σ -> Option (D τ)
 | .pr a b,x,off,σ,y =>
   if off = 0 /\ σ = .pr a b then Zev y
   else if off < a.width then (Ze0 a x.1 off σ y).map fun z=>(z,x.2) else (Ze0 b x.2 (off - a.width) σ y).map fun z=>(x.1,z)
 | τ,_,off,_,y=>if off = 0 then Zev y else none
def Zeq (m:Hp) (τ:Ty):V -> Option (List (D τ))
 | .val (.sl e) l=>Zev (τ:=.sl e) (σ:=.sl τ) l
 | .nil=>some []
 | .arr b=>match m.at b with
   | some (.rows e l)=>Zev (τ:=.sl e) (σ:=.sl τ) l
   | some (.fz e l)=>Zev (τ:=.sl e) (σ:=.sl τ) l
   | _=>none
 | _=>none
def dpOf (m:Hp) (τ:Ty):V -> Option (List (D τ))
 | .arr b=>match m.at b with
   | some (.dp e l)=>Zev (τ:=.sl e) (σ:=.sl τ) l
   | _=>none
 | _=>none
def Zel (m:Hp) (τ:Ty):V -> Option (D τ)
 | .val σ x=>Zev x
 | v=>match τ with
   | .sl e=>match Zeq m e v with
     | some l=>some l
     | none=>dpOf m e v
   | _=>none
def asm (m:Hp):(τ:Ty) -> List V -> Option (D τ × List V)
 | .pr a b,cs=>match asm m a cs with
   | some (x,r)=>match asm m b r with
     | some (y,r)=>some ((x,y),r)
     | none=>none
   | none=>none
 | .q,cs=>match cs with
   | a :: b :: c :: d :: e :: f :: r=>match Zel m (.int .i64) a,Zel m .str b,Zel m .str c,Zel m (.int .i64) d,Zel m (.int .i64) e,Zel m (.sl .q) f with
     | some a,some b,some c,some d,some e,some f=>some (.mk a b c d e f,r)
     | _,_,_,_,_,_=>none
   | _=>none
 | .unit,cs=>some ((),cs)
 | τ,v :: r=>match Zel m τ v with
   | some x=>some (x,r)
   | none=>none
 | _,[]=>none
def Zgh (m:Hp) (τ:Ty):V -> Option (D τ)
 | .val σ x=>Zev x
 | .agg cs=>match τ.agg with
   | true=>match asm m τ cs with
     | some (x,[])=>some x
     | _=>none
   | false=>none
 | v=>Zel m τ v
def V.cells:V -> List V
 | .val τ x=>Zds τ x
 | .agg cs=>cs
 | v=>[v]
def frz1 (m:Hp):V -> Hp
 | .arr b=>match m.at b with
   | some (.rows τ l)=>(b,some (.fz τ l)) :: m
   | some (.dp τ l)=>(b,some (.fz τ l)) :: m
   | _=>m
 | _=>m
def frz (m:Hp):V -> Hp
 | .agg cs=>cs.foldl frz1 m
 | .tup cs=>cs.foldl frz1 m
 | v=>frz1 m v
def scal:Value -> V
 | .bool b=>.val .bool b
 | .int k n=>.val (.int k) n
 | .string s=>.val .str s
 | .slice none 0 0=>.nil
 | .pointer none=>.nilp
 | .nilIface=>.val .err false
 | _=>.undef
def ofVal:Value -> V
 | .agg cs=>.agg (cs.toList.map scal)
 | v=>scal v
def eqB:TK -> V -> V -> Option Bool
 | .bool,.val .bool a,.val .bool b=>some (eqBo a b)
 | .int _,.val (.int k) a,.val (.int k') b=>if k = k' then some (eqI a b) else none
 | .str,.val .str a,.val .str b=>some (eqS a b)
 | _,_,_=>none
def eqL (L:List (Nat × TL)):List TypeId -> List V -> List V -> Option Bool
 | [u],[a],[b]=>match look L u with
   | some l=>eqB l.k a b
   | none=>none
 | u :: us,a :: x,b :: y=>match look L u with
   | some l=>match eqB l.k a b,eqL L us x y with
     | some c,some d=>some (andB c d)
     | _,_=>none
   | none=>none
 | _,_,_=>none
def binI (op:BinOp) (k:IntKind) (a b:Int):Option V :=
 match op with
 | .add=>some (.val (.int k) (addI k a b))
 | .sub=>some (.val (.int k) (subI k a b))
 | .mul=>some (.val (.int k) (mulI k a b))
 | .lss=>some (.val .bool (ltI a b))
 | .leq=>some (.val .bool (leI a b))
 | .gtr=>some (.val .bool (ltI b a))
 | .geq=>some (.val .bool (leI b a))
 | .eql=>some (.val .bool (eqI a b))
 | .neq=>some (.val .bool (notB (eqI a b)))
 | .xor=>some (.val (.int k) (xorI k a b))
 | _=>none
def binS (op:BinOp) (a b:ByteArray):Option V :=
 match op with
 | .lss=>some (.val .bool (ltS a b))
 | .leq=>some (.val .bool (notB (ltS b a)))
 | .gtr=>some (.val .bool (ltS b a))
 | .geq=>some (.val .bool (notB (ltS a b)))
 | .eql=>some (.val .bool (eqS a b))
 | .neq=>some (.val .bool (notB (eqS a b)))
 | _=>none
end Go.E
namespace Go.E
open Go
structure Res where
 v:V
 bs:List Bx:=[]
 outs:List (Nat × Bx):=[]
 offs:List (Nat × Nat):=[]
 mvs:List Nat:=[]
 em:List Nat:=[]
abbrev Zda:=(R:Type) -> List V -> (Res -> Option R) -> Option R
structure Env where
 L:List (Nat × TL)
 G:List (Nat × List V)
 C:List (Nat × Zda)
 dp:Bool:=false
 dn:List Nat:=[]
def Ty.hasSl:Ty -> Bool
 | .sl _=>true
 | .q=>true
 | .pr a b=>a.hasSl || b.hasSl
 | _=>false
def slOf:(τ:Ty) -> D τ -> Bool
 | .sl _,l=>match l with
   | []=>false
   | _=>true
 | τ,_=>τ.hasSl
def Zhq:V -> Bool
 | .val τ x=>slOf τ x
 | _=>false
def hasTy:V -> Bool
 | .val τ _=>τ.hasSl
 | _=>false
def hasSl:V -> Bool
 | .agg cs=>cs.any Zhq
 | .tup cs=>cs.any fun v=>match v with | .agg ds=>ds.any Zhq | v=>Zhq v
 | v=>Zhq v
def hasSlB:Bx -> Bool
 | .cs cs=>cs.any hasTy
 | .rows τ _=>τ.hasSl
 | .dp _ _=>false
 | _=>true
def anyEm (em:List Nat):Nat -> List V -> Bool
 | _,[]=>false
 | k,v :: r=>(match em.contains k with
   | true=>Zhq v
   | false=>hasTy v) || anyEm em (k + 1) r
def hasSlE (em:List Nat):V -> Bool
 | .agg cs=>anyEm em 0 cs
 | .tup cs=>cs.any fun v=>match v with | .agg ds=>anyEm em 0 ds | v=>hasTy v
 | v=>hasTy v
def Res.hasSl (r:Res):Bool:=hasSlE r.em r.v || r.bs.any hasSlB || r.outs.any fun p=>hasSlB p.2
def ment (m:Hp) (b:Nat):Nat -> V -> Bool
 | 0,_=>true
 | k + 1,v=>match v with
   | .arr c=>c == b
   | .cut c _ _=>c == b
   | .ptr c _=>c == b || (match m.at c with
     | some (.cs cs)=>cs.any (ment m b k)
     | _=>false)
   | .ep c _ _=>c == b
   | .map c=>c == b
   | .it c=>c == b
   | .agg cs=>cs.any (ment m b k)
   | .tup cs=>cs.any (ment m b k)
   | .rc cs=>cs.any (ment m b k)
   | .fn _ cs=>cs.any (ment m b k)
   | _=>false
def idOf:V -> Option Nat
 | .arr b=>some b
 | .ptr b _=>some b
 | _=>none
def idArr:V -> Option Nat
 | .arr b=>some b
 | _=>none
def idAt (offs:List (Nat × Nat)) (i:Nat) (v:V):Option Nat:=match look offs i with
 | none=>idOf v
 | some off=>match v with
   | .agg cs=>(cs[off]?).bind idArr
   | _=>none
def hasKey {α:Type} (l:List (Nat × α)) (i:Nat):Bool:=l.any fun p=>p.1 == i
def apartOk (m:Hp) (offs:List (Nat × Nat)) (outs:List (Nat × Bx)) (args:List V):Bool :=
 outs.all fun p=>match (args[p.1]?).bind (idAt offs p.1) with
  | some b=>(args.zipIdx).all fun q=>q.2 == p.1 || !(ment m b 5 q.1)
  | none=>false
def inPlace (outs:List (Nat × Bx)) (mvs:List Nat) (j:Nat):Bool:=hasKey outs j || mvs.contains j
def frzBut (outs:List (Nat × Bx)) (mvs:List Nat) (args:List V) (m:Hp):Hp :=
 (args.zipIdx).foldl (fun m q=>if inPlace outs mvs q.2 then m else frz m q.1) m
def mvOk (m:Hp) (offs:List (Nat × Nat)) (mvs:List Nat) (args:List V):Bool :=
 mvs.all fun i=>(look offs i).isNone && (match args[i]? with
  | some (.arr b)=>(match m.at b with
    | some (.dp _ _)=>(args.zipIdx).all fun q=>q.2 == i || !(ment m b 5 q.1)
    | some (.rows τ _)=>!τ.hasSl && (args.zipIdx).all fun q=>q.2 == i || !(ment m b 5 q.1)
    | _=>false)
  | _=>false)
def killMv (mvs:List Nat) (args:List V) (m:Hp):Hp:=mvs.foldl (fun (m:Hp) (i:Nat)=>match args[i]? with
 | some (.arr b)=>(b,none) :: m
 | _=>m) m
def shift1 (base:Nat):V -> V
 | .arr i=>.arr (base + i)
 | .ptr i o=>.ptr (base + i) o
 | v=>v
def shiftV (base:Nat):V -> V
 | .agg cs=>.agg (cs.map (shift1 base))
 | .tup cs=>.tup (cs.map fun v=>match v with | .agg ds=>.agg (ds.map (shift1 base)) | v=>shift1 base v)
 | v=>shift1 base v
def Zip:Nat -> Nat -> List Bx -> Hp -> Hp
 | _,_,[],m=>m
 | base,k,b :: r,m=>Zip base (k + 1) r ((base + k,some b) :: m)
def Zep:V -> Bool
 | .val _ _=>true
 | .nil=>true
 | .nilp=>true
 | _=>false
def Zf1:V -> Bool
 | .arr _=>true
 | .ptr _ _=>true
 | .undef=>true
 | v=>Zep v
def okRes:V -> Bool
 | .agg cs=>cs.all Zf1
 | .tup cs=>cs.all fun v=>match v with | .agg ds=>ds.all Zf1 | v=>Zf1 v
 | v=>Zf1 v
def okBx:Bx -> Bool
 | .cs cs=>cs.all Zep
 | .rows _ _=>true
 | .dp _ _=>true
 | _=>false
def Res.okRes (r:Res):Bool:=E.okRes r.v && r.bs.all okBx && r.outs.all (fun p=>okBx p.2) && decide (r.bs.length <= 64)
def Zik (m:Hp):V -> V
 | .ptr b 0=>match m.at b with
   | some (.cs cs)=>if cs.all Zep = true then .rc cs else .undef
   | _=>.undef
 | .rc cs=>if cs.all Zep = true then .rc cs else .undef
 | .rp σ x=>.rp σ x
 | v=>if Zep v = true then v else .undef
def handed (m:Hp) (τ:Option Ty):V -> V
 | .fn f caps=>.fn f (caps.map (Zik m))
 | .rp σ x=>.rp σ x
 | .rc cs=>Zik m (.rc cs)
 | .nilp=>.nilp
 | v=>match τ with
   | none=>Zik m v
   | some τ=>match Zgh m τ v with
     | some x=>.val τ x
     | none=>.undef
def outsH (args:List V) (offs:List (Nat × Nat)) (used:List Nat):List (Nat × Bx) -> Hp -> Option Hp
 | [],m=>some m
 | (i,x) :: r,m=>match look offs i with
   | none=>(match args[i]? with
     | some (.ptr b 0)=>if used.contains b then none else match m.at b,x with
       | some (.cs cs),.cs ds=>if cs.length = ds.length then outsH args offs (b :: used) r ((b,some (.cs ds)) :: m) else none
       | _,_=>none
     | some (.arr b)=>if used.contains b then none else match m.at b,x with
       | some (.rows σ _),.rows τ l'=>if σ = τ then outsH args offs (b :: used) r ((b,some (.rows τ l')) :: m) else none
       | _,_=>none
     | _=>none)
   | some off=>(match args[i]? with
     | some (.agg cs)=>(match cs[off]? with
       | some (.arr b)=>if used.contains b then none else if (cs.set off .nil).all Zep = true then (match m.at b,x with
         | some (.rows σ _),.rows τ l'=>if σ = τ then outsH args offs (b :: used) r ((b,some (.rows τ l')) :: m) else none
         | _,_=>none) else none
       | _=>none)
     | _=>none)
def down1 (m:Hp):V -> Hp
 | .arr b=>match m.at b with
   | some (.dp τ l)=>(b,some (.rows τ l)) :: m
   | _=>m
 | _=>m
def downs (dn:List Nat) (g:Nat) (args:List V) (m:Hp):Hp:=match dn.contains g with
 | true=>args.foldl down1 m
 | false=>m
section
variable {R:Type} (E:Env)
def wT (t:Nat) (K:TL -> Option R):Option R:=match look E.L t with
 | some l=>K l
 | none=>none
def Ze3:V -> List Nat
 | .arr b=>[b]
 | _=>[]
def arrs:V -> List Nat
 | .agg cs=>cs.flatMap Ze3
 | .tup cs=>cs.flatMap Ze3
 | v=>Ze3 v
def namesArr (b:Nat) (v:V):Bool:=(arrs v).contains b
def V.known:V -> Bool
 | .undef=>false
 | _=>true
def oneV:V -> Bool
 | .val τ _=>match τ with
   | .pr _ _=>false
   | .q=>false
   | .unit=>false
   | _=>true
 | .undef=>false
 | .agg _=>false
 | .tup _=>false
 | _=>true
def wE (t:Nat) (K:TL -> Option R):Option R:=wT E t fun l=>match l.k with
 | .sl e=>wT E e K
 | _=>none
def wF (t f:Nat) (K:Nat -> TL -> Option R):Option R:=wT E t fun l=>match l.k with
 | .st fs=>match fs[f]? with
   | some (off,u)=>wT E u fun l=>K off l
   | none=>none
 | _=>none
def opnd (s:St):Operand -> V
 | .tmp t=>s.get t
 | .const v=>ofVal v
 | .global g=>match look E.G g with
   | some cs=>.rc cs
   | none=>.undef
 | .func f=>.fn f []
def pTy (t:Nat):Option Ty:=match look E.L t with
 | some l=>match l.k with
   | .ptr _=>none
   | .other=>none
   | _=>some l.ty
 | none=>none
def handAll (m:Hp):List V -> List Nat -> List V
 | v :: vs,t :: ts=>handed m (pTy E t) v :: handAll m vs ts
 | v :: vs,[]=>handed m none v :: handAll m vs []
 | [],_=>[]
def callK (f:Nat) (tys:List Nat) (args:List V) (base:Nat) (m:Hp) (K:V -> Hp -> Option R):Option R :=
 match look E.C f with
 | some c=>c R (handAll E m args tys) fun r=>if apartOk m r.offs r.outs args = true /\ r.okRes = true /\ mvOk m r.offs r.mvs args = true then (match outsH args r.offs [] r.outs (if r.hasSl then frzBut r.outs r.mvs args m else m) with
   | some m=>K (shiftV base r.v) (Zip base 0 r.bs (killMv r.mvs args m))
   | none=>none) else none
 | none=>none
def Zif (e:Ty) (y:List (D e)):Bx:=if e.hasSl = true then .dp e y else .rows e y
def unf1 (m:Hp) (b:Nat):Hp:=match m.at b with
 | some (.dpx τ l k x off (.arr c))=>if c = b then m else (match m.at c with
   | some (.rows e y)=>if e.hasSl = true then m else (match Ze0 τ x off (.sl e) y with
     | some x1=>(b,some (.dp τ (setL l k x1))) :: (c,none) :: m
     | none=>m)
   | some (.dp e y)=>(match Ze0 τ x off (.sl e) y with
     | some x1=>(b,some (.dp τ (setL l k x1))) :: (c,none) :: m
     | none=>m)
   | _=>m)
 | _=>m
def unfV (m:Hp):V -> Hp
 | .arr b=>unf1 m b
 | _=>m
def hasDpx (m:Hp):Bool:=m.any fun p=>match p.2 with
 | some (.dpx _ _ _ _ _ _)=>true
 | _=>false
def unfAll (m:Hp):Hp:=if hasDpx m = true then (m.map (·.1) ++ m.map (·.1)).foldl unf1 m else m
def Ty.noQ:Ty -> Bool
 | .q=>false
 | .pr a b=>a.noQ && b.noQ
 | .sl e=>e.noQ
 | _=>true
def Ty.scal:Ty -> Bool
 | .int _=>true
 | .bool=>true
 | .str=>true
 | _=>false
def takeD (τ:Ty) (v:V) (m:Hp) (K:List (D τ) -> Hp -> Option R):Option R:=match v with
 | .arr c=>(match m.at c with
   | some (.dp σ r)=>(match Zev (τ:=.sl σ) (σ:=.sl τ) r with
     | some r=>K r ((c,none) :: m)
     | none=>none)
   | _=>none)
 | .cut c lo hi=>(match m.at c with
   | some (.dp σ r)=>(match Zev (τ:=.sl σ) (σ:=.sl τ) r with
     | some r=>iteB (eqI lo 0) (K (cutL (α:=D τ) r lo hi) ((c,some (.dpm τ r hi)) :: m)) none
     | none=>none)
   | some (.dpm σ r p)=>(match Zev (τ:=.sl σ) (σ:=.sl τ) r with
     | some r=>iteB (eqI lo p) (K (cutL (α:=D τ) r lo hi) ((c,some (.dpm τ r hi)) :: m)) none
     | none=>none)
   | _=>none)
 | _=>none
def Zih (l:TL) (x y:V) (base:Nat) (m:Hp) (K:V -> Hp -> Option R):Option R :=
 if l.ty.hasSl = true then takeD l.ty y (unfV (unfV m x) y) fun r m=>(match x with
  | .nil=>iteB (Zek [] r) (K (.arr base) ((base,some (.dp l.ty r)) :: m)) none
  | .arr b=>(match m.at b with
    | some (.dp σ q)=>(match Zev (τ:=.sl σ) (σ:=.sl l.ty) q with
      | some q=>iteB (Zek (α:=D l.ty) q r) (K (.arr base) ((base,some (.dp l.ty (appL (α:=D l.ty) q r))) :: (b,none) :: m)) none
      | none=>none)
    | _=>none)
  | _=>none) else none
def Zea (b:Builtin) (tys:List Nat) (xs:List V) (base:Nat) (m:Hp) (K:V -> Hp -> Option R):Option R :=
 match b,tys,xs with
 | .len,t :: _,[x]=>wT E t fun tl=>match tl.k with
   | .str=>(match x with
     | .val .str s=>K (.val (.int .i64) (lenS s)) m
     | _=>none)
   | .sl _=>(match x with
     | .val (.sl e) l=>K (.val (.int .i64) (lenL (α:=D e) l)) m
     | .nil=>K (.val (.int .i64) (0:Int)) m
     | .arr b=>(match m.at b with
       | some (.rows e l)=>K (.val (.int .i64) (lenL (α:=D e) l)) m
       | some (.fz e l)=>K (.val (.int .i64) (lenL (α:=D e) l)) m
       | some (.dp e l)=>K (.val (.int .i64) (lenL (α:=D e) l)) m
       | some (.dpx e l _ _ _ _)=>K (.val (.int .i64) (lenL (α:=D e) l)) m
       | _=>none)
     | _=>none)
   | _=>none
 | .append,[t,u],[x,y]=>wE E t fun l=>wE E u fun _=>match Zeq m l.ty y with
   | some r=>(match x with
     | .nil=>iteB (Zek [] r) (K (.arr base) ((base,some (.rows l.ty r)) :: m)) none
     | .arr b=>(match m.at b with
       | some (.rows σ q)=>(match Zev (τ:=.sl σ) (σ:=.sl l.ty) q with
         | some q=>iteB (Zek (α:=D l.ty) q r) (K (.arr base) ((base,some (.rows l.ty (appL (α:=D l.ty) q r))) :: (b,none) :: m)) none
         | none=>none)
       | _=>none)
     | _=>none)
   | none=>Zih l x y base m K
 | .min,_,[.val (.int k) a,.val (.int k') b]=>if k = k' then K (.val (.int k) (minI a b)) m else none
 | .max,_,[.val (.int k) a,.val (.int k') b]=>if k = k' then K (.val (.int k) (maxI a b)) m else none
 | .min,_,[.val (.int k) a,.val (.int k') b,.val (.int k'') c]=>if k = k' /\ k = k'' then K (.val (.int k) (minI (minI a b) c)) m else none
 | _,_,_=>none
def wI (v:V) (K:Int -> Option R):Option R:=match v with
 | .val (.int _) n=>K n
 | _=>none
def wOI (s:St) (x:Option Operand) (d:Int) (K:Int -> Option R):Option R:=match x with
 | some x=>wI (opnd E s x) K
 | none=>K d
def Ze9 (s:St) (ps:List (Nat × Operand)):List (Nat × V):=ps.map fun p=>(p.1,opnd E s p.2)
def fillAgg (fs:List (Nat × TypeId)) (cs:List V):List (Nat × V) -> Option (List V)
 | []=>some cs
 | (i,v) :: r=>match fs[i]? with
   | some (off,u)=>match look E.L u with
     | some lu=>if v.cells.length = lu.ty.width /\ off + lu.ty.width <= cs.length /\ v.cells.all oneV = true then
       fillAgg fs (cs.take off ++ v.cells ++ cs.drop (off + lu.ty.width)) r else none
     | none=>none
   | none=>none
def zeroD (τ:Ty) (cs:List V) (K:D τ -> Option R):Option R:=match asm [] τ cs with
 | some (x,[])=>K x
 | _=>none
def Ziy (m:Hp) (τ:Ty) (rows:List (D τ)):List (Nat × V) -> Option (List (D τ))
 | []=>some rows
 | (i,v) :: r=>match Zgh m τ v with
   | some x=>if i < rows.length then Ziy m τ (rows.set i x) r else none
   | none=>none
def Zgx (τ:Ty) (x:D τ) (off:Nat) (l:TL) (m:Hp) (K:V -> Hp -> Option R):Option R :=
 match Zhk τ x off l.ty with
 | some y=>K (.val l.ty y) m
 | none=>none
def cellD (m:Hp):V -> Bool
 | .val τ _=>τ.scal
 | .nil=>true
 | .arr b=>(match m.at b with
   | some (.rows e _)=>!e.hasSl
   | some (.dp _ _)=>true
   | _=>false)
 | _=>false
def partsD (m:Hp) (len:Nat):List (Nat × V) -> Bool
 | []=>decide (len = 0)
 | [(_,.agg cs)]=>decide (len = 1) && cs.all (cellD m) && decide ((cs.flatMap Ze3).Nodup)
 | _=>false
def killVs (vs:List V) (m:Hp):Hp:=(vs.flatMap arrs).foldl (fun m b=>(b,none) :: m) m
def keyOk (L:List (Nat × TL)) (l:TL):Bool:=match l.k with
 | .int _=>true
 | .str=>true
 | .st fs=>match fs with
   | [(0,t),(1,u)]=>(match look L t,look L u with
     | some lt,some lu=>(match lt.k,lu.k with
       | .str,.str=>decide (l.ty = .pr .str .str)
       | _,_=>false)
     | _,_=>false)
   | _=>false
 | _=>false
def Ty.keyTy:Ty -> Bool
 | .int _=>true
 | .str=>true
 | .pr a b=>a.keyTy && b.keyTy
 | _=>false
def wM (t:Nat) (K:TL -> TL -> Option R):Option R:=wT E t fun l=>match l.k with
 | .mp k e=>wT E k fun lk=>wT E e fun le=>if keyOk E.L lk = true /\ le.ty.agg = false /\ le.ty ≠ .err then K lk le else none
 | _=>none
def castM (κ τ κ' τ':Ty) (l:List (D κ × D τ)):Option (List (D κ' × D τ')):=Zev (τ:=.sl (.pr κ τ)) (σ:=.sl (.pr κ' τ')) l
def rowsD (m:Hp) (e:Ty) (c:Nat):Option (List (D e)):=match m.at c with
 | some (.rows σ y)=>if e.hasSl = true then none else Zev (τ:=.sl σ) (σ:=.sl e) y
 | some (.dp σ y)=>Zev (τ:=.sl σ) (σ:=.sl e) y
 | _=>none
def lookupK (lk le:TL) (mv:V) (kv:V) (base:Nat) (m:Hp) (K:V -> Hp -> Option R):Option R:=match mv with
 | .map b=>match m.at b with
   | some (.mp κ τ l)=>(match castM κ τ lk.ty le.ty l,Zgh m lk.ty kv with
     | some l,some k=>(match le.ty,l with
       | .sl e,l=>(match le.zero with
         | [.nil]=>K (.arr base) ((base,some (Zif e (getM lk.ty (.sl e) l k []))) :: (b,some (.mpx lk.ty (.sl e) l k)) :: m)
         | _=>none)
       | τ,l=>if τ.scal = true then zeroD τ le.zero fun z=>K (.val τ (getM lk.ty τ l k z)) m else none)
     | _,_=>none)
   | _=>none
 | _=>none
def updK (lk le:TL) (mv kv v:V) (m:Hp) (K:V -> Hp -> Option R):Option R:=match mv with
 | .map b=>(match v with
   | .arr c=>(match (unf1 m c).at b with
     | some (.mpx κ τ l k0)=>(match Zev (τ:=κ) (σ:=lk.ty) k0,castM κ τ lk.ty le.ty l,Zgh m lk.ty kv with
       | some k0,some l,some k=>(match le.ty,l with
         | .sl e,l=>(match rowsD (unf1 m c) e c with
           | some y=>if c = b then none else iteB (eqK lk.ty k k0) (K (.tup []) ((b,some (.mp lk.ty (.sl e) (putM lk.ty (.sl e) l k y))) :: (c,none) :: unf1 m c)) none
           | none=>none)
         | _,_=>none)
       | _,_,_=>none)
     | _=>none)
   | v=>(match m.at b with
     | some (.mp κ τ l)=>(match castM κ τ lk.ty le.ty l,Zgh m lk.ty kv,Zgh m le.ty v with
       | some l,some k,some y=>if le.ty.scal = true then K (.tup []) ((b,some (.mp lk.ty le.ty (putM lk.ty le.ty l k y))) :: m) else none
       | _,_,_=>none)
     | _=>none))
 | _=>none
def V.aggy:V -> Bool
 | .val τ _=>τ.agg
 | .agg _=>true
 | _=>false
def structEq (fs:List (Nat × TypeId)) (a b:V):Bool :=
 decide (fs.map (·.1) = List.range fs.length) && a.aggy && b.aggy
def cellK (l:TL) (cs:List V) (off:Nat) (m:Hp) (K:V -> Hp -> Option R):Option R :=
 match l.ty.agg with
 | true=>if off + l.ty.width <= cs.length then K (.agg ((cs.drop off).take l.ty.width)) m else none
 | false=>match cs[off]? with
   | some v=>K v m
   | none=>none
def opK (o:Op) (base:Nat) (s:St) (K:V -> Hp -> Option R):Option R :=
 match o with
 | .move x=>K (opnd E s x) s.m
 | .assign x=>K (opnd E s x) s.m
 | .pick c a b=>match opnd E s c with
   | .val .bool t=>iteB t (K (opnd E s a) s.m) (K (opnd E s b) s.m)
   | _=>none
 | .alloc t=>wT E t fun l=>K (.ptr base 0) ((base,some (.cs l.zero)) :: s.m)
 | .box t x=>wT E t fun l =>
   if (opnd E s x).cells.length = l.ty.width /\ (opnd E s x).known = true then K (.ptr base 0) ((base,some (.cs (opnd E s x).cells)) :: s.m) else none
 | .build t parts=>wT E t fun l=>match l.k with
   | .st fs=>match fillAgg E fs l.zero (Ze9 E s parts.toList) with
     | some cs=>K (.agg cs) s.m
     | none=>none
   | _=>none
 | .buildSlice t len parts=>wE E t fun l=>if 2 ^ 20 < len * l.ty.width then none else zeroD l.ty l.zero fun z=>match Ziy s.m l.ty (List.replicate len z) (Ze9 E s parts.toList) with
   | some r=>(match E.dp && l.ty.hasSl with
     | false=>K (.arr base) ((base,some (.rows l.ty r)) :: ((Ze9 E s parts.toList).map (·.2)).foldl frz s.m)
     | true=>if (l.ty.noQ && partsD s.m len (Ze9 E s parts.toList)) = true then K (.arr base) ((base,some (.dp l.ty r)) :: killVs ((Ze9 E s parts.toList).map (·.2)) s.m) else none)
   | none=>none
 | .load t a=>wT E t fun l=>match opnd E s a with
   | .ptr b off=>match s.m.at b with
     | some (.cs cs)=>cellK l cs off s.m K
     | _=>none
   | .rc cs=>cellK l cs 0 s.m K
   | .rp τ x=>Zgx τ x 0 l s.m K
   | .ep b i off=>match s.m.at b with
     | some (.rows τ r)=>bindO (atL (α:=D τ) r i) fun x=>Zgx τ x off l s.m K
     | some (.fz τ r)=>bindO (atL (α:=D τ) r i) fun x=>Zgx τ x off l s.m K
     | some (.dp τ r)=>(match l.ty with
       | .sl e=>bindO (atL (α:=D τ) r i) fun x=>(match Zhk τ x off (.sl e),Ze0 τ x off (.sl e) ([]:List (D e)) with
         | some y,some x0=>K (.arr base) ((base,some (Zif e y)) :: (b,some (.dpx τ r i x0 off (.arr base))) :: s.m)
         | _,_=>none)
       | ty=>if ty.scal = true then bindO (atL (α:=D τ) r i) fun x=>Zgx τ x off l s.m K else none)
     | some (.dpx τ r k x o v)=>(match l.ty with
       | .sl _=>if o = off then iteB (eqI i k) (K v s.m) none else none
       | _=>none)
     | _=>none
   | _=>none
 | .store t a x=>wT E t fun l=>match opnd E s a with
   | .ptr b off=>match s.m.at b with
     | some (.cs cs)=>if (opnd E s x).cells.length = l.ty.width /\ off + l.ty.width <= cs.length /\ (opnd E s x).cells.all oneV = true then
           K (.tup []) ((b,some (.cs (cs.take off ++ (opnd E s x).cells ++ cs.drop (off + l.ty.width)))) :: s.m) else none
     | _=>none
   | .ep b i off=>match s.m.at b with
     | some (.rows τ r)=>match Zgh s.m l.ty (opnd E s x) with
       | some y=>if namesArr b (opnd E s x) = true then none else bindO (atL (α:=D τ) r i) fun z=>match Ze0 τ z off l.ty y with
         | some z'=>K (.tup []) ((b,some (.rows τ (setL (α:=D τ) r i z'))) :: frz s.m (opnd E s x))
         | none=>none
       | none=>none
     | some (.dpx τ r k x0 o _)=>(match l.ty with
       | .sl _=>(match opnd E s x with
         | .arr c=>if o = off /\ c ≠ b then iteB (eqI i k) (K (.tup []) ((b,some (.dpx τ r k x0 o (.arr c))) :: s.m)) none else none
         | _=>none)
       | _=>none)
     | _=>none
   | _=>none
 | .nilCheck x=>match opnd E s x with
   | .ptr b off=>K (.ptr b off) s.m
   | .rc cs=>K (.rc cs) s.m
   | .rp τ y=>K (.rp τ y) s.m
   | .ep b i off=>K (.ep b i off) s.m
   | .fn f caps=>K (.fn f caps) s.m
   | _=>none
 | .binOp op xt x y _=>match opnd E s x,opnd E s y with
   | .val (.int k) a,.val (.int k') b=>if k = k' then (match op with
     | .quo=>iteB (eqI b 0) none (K (.val (.int k) (divI k a b)) s.m)
     | .rem=>iteB (eqI b 0) none (K (.val (.int k) (modI a b)) s.m)
     | op=>match binI op k a b with
       | some v=>K v s.m
       | none=>none) else none
   | .val .str a,.val .str b=>match op with
     | .add=>iteB (roomS a b) (K (.val .str (catS a b)) s.m) none
     | op=>match binS op a b with
       | some v=>K v s.m
       | none=>none
   | .val .bool a,.val .bool b=>wT E xt fun l=>match l.k with
     | .bool=>(match op with
       | .eql=>K (.val .bool (eqBo a b)) s.m
       | .neq=>K (.val .bool (notB (eqBo a b))) s.m
       | _=>none)
     | _=>none
   | .val .err a,.val .err _=>wT E xt fun l=>match l.k with
     | .err=>(match y with
       | .const .nilIface=>(match op with
         | .eql=>K (.val .bool (notB a)) s.m
         | .neq=>K (.val .bool a) s.m
         | _=>none)
       | _=>none)
     | _=>none
   | a,b=>wT E xt fun l=>match l.k with
     | .st fs=>if structEq fs a b = true then (match eqL E.L (fs.map (·.2)) a.cells b.cells with
       | some c=>(match op with
         | .eql=>K (.val .bool c) s.m
         | .neq=>K (.val .bool (notB c)) s.m
         | _=>none)
       | none=>none) else none
     | _=>none
 | .unOp op _ x=>match op,opnd E s x with
   | .not,.val .bool b=>K (.val .bool (notB b)) s.m
   | .neg,.val (.int k) n=>K (.val (.int k) (negI k n)) s.m
   | _,_=>none
 | .convert src dst x=>wT E src fun ls=>wT E dst fun l=>match l.k with
   | .int k=>(match opnd E s x with
     | .val (.int _) n=>K (.val (.int k) (Zhv k n)) s.m
     | _=>none)
   | .sl e=>wT E e fun le=>(match ls.k,le.k with
     | .str,.int .u8=>(match opnd E s x with
       | .val .str a=>K (.arr base) ((base,some (.rows (.int .u8) (Zgb a))) :: s.m)
       | _=>none)
     | _,_=>none)
   | .str=>(match ls.k with
     | .sl e=>wT E e fun le=>(match le.k with
       | .int .u8=>(match Zeq s.m (.int .u8) (opnd E s x) with
         | some r=>K (.val .str (strOf r)) s.m
         | none=>none)
       | _=>none)
     | _=>none)
   | _=>none
 | .fieldAddr t x f=>wF E t f fun off l=>match opnd E s x with
   | .ptr b o=>K (.ptr b (o + off)) s.m
   | .ep b i o=>K (.ep b i (o + off)) s.m
   | .rc cs=>K (.rc (cs.drop off)) s.m
   | .rp τ x=>match Zhk τ x off l.ty with
     | some y=>K (.rp l.ty y) s.m
     | none=>none
   | _=>none
 | .field t x f=>wF E t f fun off l=>match opnd E s x with
   | .val τ x=>if τ.agg = true then Zgx τ x off l s.m K else none
   | .agg cs=>cellK l cs off s.m K
   | _=>none
 | .indexAddr t x i=>wE E t fun tl=>wI (opnd E s i) fun n=>match opnd E s x with
   | .arr b=>(match s.m.at b with
     | some (.rows τ l)=>if τ = tl.ty then iteB (leI 0 n) (iteB (ltI n (lenL (α:=D τ) l)) (K (.ep b n 0) s.m) none) none else none
     | some (.fz τ l)=>if τ = tl.ty then bindO (atL (α:=D τ) l n) fun x=>K (.rp τ x) s.m else none
     | some (.dp τ l)=>if τ = tl.ty then iteB (leI 0 n) (iteB (ltI n (lenL (α:=D τ) l)) (K (.ep b n 0) s.m) none) none else none
     | some (.dpx τ l _ _ _ _)=>if τ = tl.ty then iteB (leI 0 n) (iteB (ltI n (lenL (α:=D τ) l)) (K (.ep b n 0) s.m) none) none else none
     | _=>none)
   | .val (.sl e) l=>if e = tl.ty then bindO (atL (α:=D e) l n) fun x=>K (.rp e x) s.m else none
   | _=>none
 | .index t x i=>wT E t fun tl=>wI (opnd E s i) fun n=>match tl.k with
   | .str=>(match opnd E s x with
     | .val .str a=>bindO (atS a n) fun b=>K (.val (.int .u8) b) s.m
     | _=>none)
   | _=>none
 | .slice t x lo hi mx=>match mx with
   | some _=>none
   | none=>wT E t fun tl=>match tl.k with
     | .str=>(match opnd E s x with
       | .val .str a=>wOI E s lo 0 fun l=>wOI E s hi (lenS a) fun h=>iteB (Zfs l h (lenS a)) (K (.val .str (cutS a l h)) s.m) none
       | _=>none)
     | .sl e=>wT E e fun tl=>(match Zeq s.m tl.ty (opnd E s x) with
       | some r=>wOI E s lo 0 fun l=>wOI E s hi (lenL r) fun h=>iteB (Zfs l h (lenL r)) (K (.val (.sl tl.ty) (cutL r l h)) (frz s.m (opnd E s x))) none
       | none=>(match opnd E s x with
         | .arr b=>(match s.m.at b with
           | some (.dp σ r)=>if σ = tl.ty then wOI E s lo 0 fun l=>wOI E s hi (lenL (α:=D σ) r) fun h=>iteB (Zfs l h (lenL (α:=D σ) r)) (K (.cut b l h) s.m) none else none
           | some (.dpm σ r _)=>if σ = tl.ty then wOI E s lo 0 fun l=>wOI E s hi (lenL (α:=D σ) r) fun h=>iteB (Zfs l h (lenL (α:=D σ) r)) (K (.cut b l h) s.m) none else none
           | _=>none)
         | _=>none))
     | _=>none
 | .makeSlice t l c=>wE E t fun tl=>zeroD tl.ty tl.zero fun z=>wI (opnd E s l) fun n=>wI (opnd E s c) fun k =>
   iteB (eqI n k) (iteB (roomN n) (K (.arr base) ((base,some (.rows tl.ty (repL (α:=D tl.ty) n z))) :: s.m)) none) none
 | .makeMap t x=>match x with
   | none=>wM E t fun lk le=>K (.map base) ((base,some (.mp lk.ty le.ty [])) :: s.m)
   | some _=>none
 | .lookup t x i ok=>match ok with
   | false=>wM E t fun lk le=>lookupK lk le (opnd E s x) (opnd E s i) base s.m K
   | true=>none
 | .mapUpdate t x i y=>wM E t fun lk le=>updK lk le (opnd E s x) (opnd E s i) (opnd E s y) s.m K
 | .range t x=>wM E t fun lk le=>match opnd E s x with
   | .map b=>match s.m.at b with
     | some (.mp κ τ l)=>K (.it base) ((base,some (.mpi κ τ l)) :: (b,none) :: s.m)
     | _=>none
   | _=>none
 | .entry x=>match opnd E s x with
   | .it b=>match s.m.at b with
     | some (.mpe κ τ l k y)=>if κ.keyTy = false then none else (match τ,l,y with
       | .sl e,l,y=>K (.tup [.val κ k,.arr base]) ((base,some (Zif e y)) :: (b,some (.mpi κ (.sl e) l)) :: s.m)
       | τ,l,y=>if τ.scal = true then K (.tup [.val κ k,.val τ y]) ((b,some (.mpi κ τ l)) :: s.m) else none)
     | _=>none
   | _=>none
 | .extract x i=>match opnd E s x with
   | .tup vs=>match vs[i]? with
     | some v=>K v s.m
     | none=>none
   | _=>none
 | .makeFunc (.func f) first caps=>match first.toList with
   | []=>K (.fn f (caps.toList.map (opnd E s))) s.m
   | _=>none
 | .call c=>match c.callee with
   | .builtin b=>Zea E b c.argTypes.toList (c.args.toList.map (opnd E s)) base s.m K
   | .value f=>match opnd E s f with
     | .fn g caps=>callK E g c.argTypes.toList (c.args.toList.map (opnd E s) ++ caps) base (downs E.dn g (c.args.toList.map (opnd E s)) s.m) K
     | _=>none
   | _=>none
 | _=>none
def Zed:Nat:=64
def opsK (ops:Array Oper):List Oper -> Nat -> St -> (St -> Option R) -> Option R
 | [],base,s,K=>K { s with n:=base }
 | o :: r,base,s,K=>match o.guard with
   | none=>opK E o.op base s fun v m=>opsK ops r (base + Zed) ({ s with m:=m }.put o.dst v) K
   | some (j,want)=>match ops[j]? with
     | none=>none
     | some oj=>match oj.dst with
       | none=>none
       | some d=>match s.get d with
         | .val .bool b =>
           match want with
           | true=>iteB b (opK E o.op base (s.put (some d) (.val .bool true)) fun v m=>opsK ops r (base + Zed) ({ s.put (some d) (.val .bool true) with m:=m }.put o.dst v) K)
             (opsK ops r (base + Zed) ((s.put (some d) (.val .bool false)).put o.dst (.tup [])) K)
           | false=>iteB b (opsK ops r (base + Zed) ((s.put (some d) (.val .bool true)).put o.dst (.tup [])) K)
             (opK E o.op base (s.put (some d) (.val .bool false)) fun v m=>opsK ops r (base + Zed) ({ s.put (some d) (.val .bool false) with m:=m }.put o.dst v) K)
         | .tup []=>opsK ops r (base + Zed) (s.put o.dst (.tup [])) K
         | _=>none
def Zgv:V -> List Nat
 | .arr b=>[b]
 | .ptr b _=>[b]
 | .ep b _ _=>[b]
 | .cut b _ _=>[b]
 | .map b=>[b]
 | .it b=>[b]
 | _=>[]
def readsM:Op -> Bool
 | .move _=>false
 | .assign _=>false
 | .pick _ _ _=>false
 | .build _ _=>false
 | .nilCheck _=>false
 | .binOp _ _ _ _ _=>false
 | .unOp _ _ _=>false
 | .fieldAddr _ _ _=>false
 | .extract _ _=>false
 | .makeFunc _ _ _=>false
 | _=>true
def Zf4 (s:St) (o:Op):List Nat:=if readsM o = true then o.operands.toList.flatMap fun x=>Zgv (opnd E s x) else []
def Zh4 (m m':Hp):List Nat:=(m'.take (m'.length - m.length)).map (·.1)
def protOk (prot:List (Nat × List Nat)) (o:Oper) (m m':Hp):Bool :=
 prot.all fun p=>(o.after.any fun e=>Region.binds .any e && e.on == p.1) || p.2.all fun b=>!(Zh4 m m').contains b
def quietOp:Op -> Bool
 | .slice _ _ _ _ _=>true
 | .convert _ _ _=>true
 | .load _ _=>true
 | _=>false
def Zhc (early:Bool) (o:Oper) (m m':Hp):Bool:=!(early && quietOp o.op) || (Zh4 m m').isEmpty
def Ze2 (ops:Array Oper):List (Nat × Bool) -> List (Nat × List Nat) -> Nat -> St -> (St -> Option R) -> Option R
 | [],_,base,s,K=>K { s with n:=base + Zed * ops.size }
 | (i,early) :: r,prot,base,s,K=>match ops[i]? with
   | none=>none
   | some o=>match o.guard with
     | none=>opK E o.op (base + Zed * i) s fun v m=>if (protOk prot o s.m m && Zhc early o s.m m) = true then
       Ze2 ops r (if early = true then (i,Zf4 E s o.op) :: prot else prot) base ({ s with m:=m }.put o.dst v) K else none
     | some (j,want)=>match ops[j]? with
       | none=>none
       | some oj=>match oj.dst with
         | none=>none
         | some d=>match s.get d with
           | .val .bool b =>
             match want with
             | true=>iteB b (opK E o.op (base + Zed * i) (s.put (some d) (.val .bool true)) fun v m=>if (protOk prot o s.m m && Zhc early o s.m m) = true then
                   Ze2 ops r (if early = true then (i,Zf4 E s o.op) :: prot else prot) base ({ s.put (some d) (.val .bool true) with m:=m }.put o.dst v) K else none)
               (Ze2 ops r prot base ((s.put (some d) (.val .bool false)).put o.dst (.tup [])) K)
             | false=>iteB b (Ze2 ops r prot base ((s.put (some d) (.val .bool true)).put o.dst (.tup [])) K)
               (opK E o.op (base + Zed * i) (s.put (some d) (.val .bool false)) fun v m=>if (protOk prot o s.m m && Zhc early o s.m m) = true then
                Ze2 ops r (if early = true then (i,Zf4 E s o.op) :: prot else prot) base ({ s.put (some d) (.val .bool false) with m:=m }.put o.dst v) K else none)
           | .tup []=>Ze2 ops r prot base (s.put o.dst (.tup [])) K
           | _=>none
end
structure Acc where
 ren:List (Nat × Nat)
 m:Hp
 n:Nat
def Zga (f:V -> Acc -> V × Acc):List V -> Acc -> List V × Acc
 | [],a=>([],a)
 | v :: r,a=>match f v a with
   | (v',a)=>match Zga f r a with
     | (r',a)=>(v' :: r',a)
def canV (m:Hp):Nat -> V -> Acc -> V × Acc
 | 0,_,a=>(.undef,a)
 | k + 1,v,a=>match v with
   | .arr b=>match look a.ren b with
     | some c=>(.arr c,a)
     | none=>match m.at b with
       | some (.rows τ l)=>(.arr a.n,{ ren:=(b,a.n) :: a.ren,m:=(a.n,some (.rows τ l)) :: a.m,n:=a.n + 1 })
       | some (.fz τ l)=>(.arr a.n,{ ren:=(b,a.n) :: a.ren,m:=(a.n,some (.fz τ l)) :: a.m,n:=a.n + 1 })
       | some (.dp τ l)=>(.arr a.n,{ ren:=(b,a.n) :: a.ren,m:=(a.n,some (.dp τ l)) :: a.m,n:=a.n + 1 })
       | _=>(.undef,a)
   | .ptr b off=>match look a.ren b with
     | some c=>(.ptr c off,a)
     | none=>match m.at b with
       | some (.cs cs)=>match Zga (canV m k) cs { ren:=(b,a.n) :: a.ren,m:=a.m,n:=a.n + 1 } with
         | (cs',a')=>(.ptr a.n off,{ a' with m:=(a.n,some (.cs cs')) :: a'.m })
       | _=>(.undef,a)
   | .ep _ _ _=>(.undef,a)
   | .cut _ _ _=>(.undef,a)
   | .map b=>match look a.ren b with
     | some c=>(.map c,a)
     | none=>match m.at b with
       | some (.mp κ τ l)=>(.map a.n,{ ren:=(b,a.n) :: a.ren,m:=(a.n,some (.mp κ τ l)) :: a.m,n:=a.n + 1 })
       | some (.mpx κ τ l k)=>(.map a.n,{ ren:=(b,a.n) :: a.ren,m:=(a.n,some (.mpx κ τ l k)) :: a.m,n:=a.n + 1 })
       | _=>(.undef,a)
   | .it b=>match look a.ren b with
     | some c=>(.it c,a)
     | none=>match m.at b with
       | some (.mpi κ τ l)=>(.it a.n,{ ren:=(b,a.n) :: a.ren,m:=(a.n,some (.mpi κ τ l)) :: a.m,n:=a.n + 1 })
       | some (.mpe κ τ l k y)=>(.it a.n,{ ren:=(b,a.n) :: a.ren,m:=(a.n,some (.mpe κ τ l k y)) :: a.m,n:=a.n + 1 })
       | _=>(.undef,a)
   | .agg cs=>match Zga (canV m k) cs a with
     | (cs,a)=>(.agg cs,a)
   | .tup cs=>match Zga (canV m k) cs a with
     | (cs,a)=>(.tup cs,a)
   | .rc cs=>match Zga (canV m k) cs a with
     | (cs,a)=>(.rc cs,a)
   | .fn f cs=>match Zga (canV m k) cs a with
     | (cs,a)=>(.fn f cs,a)
   | v=>(v,a)
def canT (s:St):List Nat -> Acc -> List (Nat × V) × Acc
 | [],a=>([],a)
 | t :: r,a=>match canV s.m 4 (s.get t) a with
   | (v,a)=>match canT s r a with
     | (ts,a)=>((t,v) :: ts,a)
def keepB (m:Hp):List Nat -> Acc -> Acc
 | [],a=>a
 | i :: r,a=>match m.at i with
   | some (.cs cs)=>match Zga (canV m 4) cs a with
     | (cs',a')=>keepB m r { a' with m:=(i,some (.cs cs')) :: a'.m }
   | some (.rows τ l)=>keepB m r { a with m:=(i,some (.rows τ l)) :: a.m }
   | some (.fz τ l)=>keepB m r { a with m:=(i,some (.fz τ l)) :: a.m }
   | some (.dp τ l)=>keepB m r { a with m:=(i,some (.dp τ l)) :: a.m }
   | _=>keepB m r a
def Zh2:List Nat -> Nat
 | []=>0
 | i :: r=>max (i + 1) (Zh2 r)
def canon0 (kp live:List Nat) (s:St):St:=match canT s live (keepB s.m kp { ren:=kp.map fun i=>(i,i),m:=[],n:=Zh2 kp }) with
 | (ts,a)=>{ t:=ts,m:=a.m,n:=a.n }
def canon (kp live:List Nat) (s:St):St:=canon0 kp live { s with m:=unfAll s.m }
inductive Ex | normal | exit (id:Nat) | ret
def lim {R:Type} (f:Nat -> Option R):Option R :=
 open Classical in if h:∃ r,∃ k,f k = some r then some (Classical.choose h) else none
theorem hide_ex {α β:Type} (f:α -> β):∃ g,g = f:=⟨f,rfl⟩
def hide {α β:Type} (f:α -> β):α -> β:=Classical.choose (hide_ex f)
theorem hide_eq {α β:Type} (f:α -> β):hide f = f:=Classical.choose_spec (hide_ex f)
abbrev Kt (R:Type):=Ex -> St -> Option R
inductive Sc
 | done
 | one (i:Nat) (early:Bool) (r:Sc)
 | or (a b:Sc)
def Sc.lin:Sc -> List (List (Nat × Bool))
 | .done=>[[]]
 | .one i e r=>r.lin.map fun l=>(i,e) :: l
 | .or a b=>a.lin ++ b.lin
def Sc.heads:Sc -> List Nat
 | .done=>[]
 | .one i _ _=>[i]
 | .or a b=>a.heads ++ b.heads
structure Ann where
 lp:List (Nat × List Nat)
 jn:List (Nat × List Nat)
 sc:List (Nat × List (Nat × Bool))
 kp:List Nat
 fk:List (Nat × Sc × List Nat × List Nat × List Nat):=[]
def firstR:Code -> Option Nat
 | .region id _ _=>some id
 | .seq a _=>firstR a
 | .block _ a=>firstR a
 | .loop a=>firstR a
 | _=>none
def canAt (kp:List Nat) (tab:List (Nat × List Nat)) (c:Code) (s:St):St:=match firstR c with
 | some id=>match look tab id with
   | some live=>canon kp live s
   | none=>s
 | none=>s
section
variable {R:Type} (E:Env) (A:Ann)
def frzS (ts:List Nat) (s:St):St:={ s with m:=ts.foldl (fun m t=>frz m (s.get t)) s.m }
def forkL (ops:Array Oper) (base:Nat) (s:St) (C:St -> Option St) (o0:List (Nat × Bool)):List (List (Nat × Bool)) -> Prop
 | []=>True
 | o :: r=>Ze2 E ops o [] base s C = Ze2 E ops o0 [] base s C /\ forkL ops base s C o0 r
def orK (kp live:List Nat) (ops:Array Oper) (t:Sc) (base:Nat) (s:St) (K:St -> Option R):Option R:=match t.lin with
 | []=>none
 | o0 :: r=>open Classical in if forkL E ops base s (fun s=>some (canon kp live s)) o0 r then Ze2 E ops o0 [] base s (fun s=>K (canon kp live s)) else none
def orP (A:Ann) (ops:Array Oper) (p:Sc × List Nat × List Nat × List Nat) (s:St) (K:St -> Option R):Option R :=
 orK E A.kp p.2.2.1 ops p.1 (frzS p.2.2.2 s).n (frzS p.2.2.2 s) K
def joinK (A:Ann) (b:Code) (rb:St -> Kt R -> Option R) (κ:Kt R) (s:St):Option R:=match firstR b with
 | some id=>match look A.jn id with
   | some live=>hide (fun s=>rb s κ) (canon A.kp live s)
   | none=>rb s κ
 | none=>rb s κ
def seqK (A:Ann) (b:Code) (rb:St -> Kt R -> Option R) (κ:Kt R):Kt R
 | .normal,s=>joinK A b rb κ s
 | .exit id,s=>κ (.exit id) s
 | .ret,s=>κ .ret s
def blockK (id:Nat) (κ:Kt R):Kt R
 | .exit j,s=>if j = id then κ .normal s else κ (.exit j) s
 | .normal,s=>κ .normal s
 | .ret,s=>κ .ret s
def loopK (A:Ann) (a:Code) (rec:St -> Option R) (κ:Kt R):Kt R
 | .normal,s=>rec (canAt A.kp A.lp a s)
 | .exit id,s=>κ (.exit id) s
 | .ret,s=>κ .ret s
def iter (A:Ann) (a:Code) (B:St -> Kt R -> Option R) (κ:Kt R):Nat -> St -> Option R
 | 0,_=>none
 | k + 1,s=>B s (loopK A a (iter A a B κ k) κ)
def loopR (A:Ann) (a:Code) (B:St -> Kt R -> Option R) (κ:Kt R) (s:St):Option R:=hide (fun s=>lim fun k=>iter A a B κ k s) s
def nextOf:List Oper -> Option (Operand × Nat × Nat)
 | [o,p]=>match o.op,p.op,o.guard,p.guard,o.dst,p.dst with
   | .next x str,.extract (.tmp a) 0,none,none,some a',some c=>if str = false /\ a = a' then some (x,a,c) else none
   | _,_,_,_,_,_=>none
 | _=>none
def nextK (x:Operand) (a c:Nat) (s:St) (K:St -> Option R):Option R:=match opnd E s x with
 | .it b=>match s.m.at b with
   | some (.mpi κ τ l)=>pickK l (K { ((s.put (some a) .undef).put (some c) (.val .bool false)) with n:=s.n + 2 * Zed })
     (fun y r=>K { ((s.put (some a) .undef).put (some c) (.val .bool true)) with m:=(b,some (.mpe κ τ r y.1 y.2)) :: s.m,n:=s.n + 2 * Zed })
   | _=>none
 | _=>none
def run:Code -> St -> Kt R -> Option R
 | .skip,s,κ=>κ .normal s
 | .region id ops d,s,κ=>match d with
   | false=>(match nextOf ops.toList with
     | some (x,a,c)=>nextK E x a c s (κ .normal)
     | none=>opsK E ops ops.toList s.n s (κ .normal))
   | true=>match look A.fk id with
     | some p=>hide (fun s=>orP E A ops p s (κ .normal)) (canon A.kp p.2.1 s)
     | none=>match look A.sc id with
       | some ord=>Ze2 E ops ord [] s.n s (κ .normal)
       | none=>none
 | .seq a b,s,κ=>run a s (seqK A b (run b) κ)
 | .cond c a b,s,κ=>match opnd E s c with
   | .val .bool t=>match c with
     | .tmp d=>iteB t (run a (s.put (some d) (.val .bool true)) κ) (run b (s.put (some d) (.val .bool false)) κ)
     | _=>iteB t (run a s κ) (run b s κ)
   | _=>none
 | .block id a,s,κ=>run a s (blockK id κ)
 | .loop a,s,κ=>loopR A a (run a) κ (canAt A.kp A.lp a s)
 | .exit id,s,κ=>κ (.exit id) s
 | .ret,s,κ=>κ .ret s
 | _,_,_=>none
def Zis:Code -> List Nat -> Code
 | c,[]=>c
 | .seq a b,k :: p=>if k = 0 then Zis a p else Zis b p
 | .cond _ a b,k :: p=>if k = 0 then Zis a p else Zis b p
 | .block _ a,_ :: p=>Zis a p
 | .loop a,_ :: p=>Zis a p
 | c,_=>c
def Zgf:Code -> List Nat -> Kt R -> Kt R
 | _,[],κ=>κ
 | .seq a b,k :: p,κ=>if k = 0 then Zgf a p (seqK A b (run E A b) κ) else Zgf b p κ
 | .cond _ a b,k :: p,κ=>if k = 0 then Zgf a p κ else Zgf b p κ
 | .block id a,_ :: p,κ=>Zgf a p (blockK id κ)
 | .loop a,_ :: p,κ=>Zgf a p (loopK A a (loopR A a (run E A a) κ) κ)
 | _,_ :: _,κ=>κ
end
inductive RO
 | val (τ:Ty)
 | own (τ:Ty)
 | st (τ:Ty)
 | mx (τ:Ty) (off:Nat) (σ:Ty) (es:List Nat)
 | dp (τ:Ty)
def RO.ty:RO -> Ty
 | .val τ=>τ
 | .own τ=>.sl τ
 | .st τ=>τ
 | .mx τ _ _ _=>τ
 | .dp τ=>.sl τ
inductive CT
 | val (τ:Ty)
 | rc (τ:Ty)
def CT.ty:CT -> Ty
 | .val τ=>τ
 | .rc τ=>τ
inductive PT
 | val (τ:Ty)
 | st (τ:Ty)
 | io (τ:Ty)
 | rc (τ:Ty)
 | fn (f:Nat) (cs:List CT)
 | mx (τ:Ty) (off:Nat) (σ:Ty)
 | mv (τ:Ty)
def PT.ty:PT -> Ty
 | .val τ=>τ
 | .st τ=>τ
 | .io τ=>.sl τ
 | .rc τ=>τ
 | .fn _ cs=>Zdt (cs.map CT.ty)
 | .mx τ _ _=>τ
 | .mv τ=>.sl τ
def capV:(c:CT) -> D c.ty -> V
 | .val τ,x=>.val τ x
 | .rc τ,x=>.rc (Zds τ x)
def capsV:(cs:List CT) -> D (Zdt (cs.map CT.ty)) -> List V
 | [],_=>[]
 | [c],x=>[capV c x]
 | c :: d :: r,x=>capV c x.1 :: capsV (d :: r) x.2
def Zdg:List PT -> List Ty
 | .st τ :: r=>τ :: Zdg r
 | .io τ :: r=>.sl τ :: Zdg r
 | .val _ :: r=>Zdg r
 | .rc _ :: r=>Zdg r
 | .fn _ _ :: r=>Zdg r
 | .mx _ _ σ :: r=>.sl σ :: Zdg r
 | .mv _ :: r=>Zdg r
 | []=>[]
def rvV (E:Env) (s:St):ResultVar -> V
 | .tmp t=>s.get t
 | .cell a t=>match look E.L t,s.get a with
   | some l,.ptr b off=>match s.m.at b with
     | some (.cs cs)=>match cellK l cs off s.m (fun v _=>some v) with
       | some v=>v
       | none=>.undef
     | _=>.undef
   | _,_=>.undef
def Zhl (cs:List V) (off:Nat) (σ:Ty):Option (List (D σ)):=match cs[off]? with
 | some (.val τ l)=>Zev (τ:=τ) (σ:=.sl σ) l
 | _=>none
def ownAt (m:Hp) (cs:List V) (off:Nat) (σ:Ty):Bool:=match cs[off]? with
 | some .nil=>true
 | some (.arr b)=>(match m.at b with
   | some (.rows τ _)=>decide (τ = σ)
   | _=>false)
 | _=>false
def empV:V -> V
 | .val (.sl e) _=>.val (.sl e) []
 | v=>v
def empL (cs:List V):List Nat -> List V
 | []=>cs
 | i :: r=>match cs[i]? with
   | some v=>empL (cs.set i (empV v)) r
   | none=>empL cs r
def isEmpV:V -> Bool
 | .val (.sl _) l=>match l with
   | []=>true
   | _=>false
 | _=>true
def empOk (cs:List V):List Nat -> Bool
 | []=>true
 | i :: r=>(match cs[i]? with
   | some v=>isEmpV v
   | none=>true) && empOk cs r
def getRO (m:Hp) (v:V):(o:RO) -> Option (D o.ty)
 | .val τ=>Zgh m τ v
 | .own τ=>match v with
   | .nil=>some ([]:List (D τ))
   | .arr b=>match m.at b with
     | some (.rows σ l)=>Zev (τ:=.sl σ) (σ:=.sl τ) l
     | _=>none
   | _=>none
 | .st τ=>match v with
   | .ptr b 0=>match m.at b with
     | some (.cs cs)=>match asm m τ cs with
       | some (x,[])=>some x
       | _=>none
     | _=>none
   | _=>none
 | .mx τ off σ es=>match v with
   | .agg cs=>if ownAt m cs off σ = true /\ τ.agg = true then (match asm m τ cs with
     | some (x,[])=>if empOk (Zds τ x) es = true then (match Zhl (Zds τ x) off σ with
       | some _=>some x
       | none=>none) else none
     | _=>none) else none
   | _=>none
 | .dp τ=>match v with
   | .arr b=>match m.at b with
     | some (.dp σ l)=>Zev (τ:=.sl σ) (σ:=.sl τ) l
     | _=>none
   | _=>none
def ownId (v:V):RO -> Option Nat
 | .val _=>none
 | .mx _ off _ _=>match v with
   | .agg cs=>(cs[off]?).bind idArr
   | _=>none
 | _=>idOf v
def Zei (m:Hp) (b:Nat):List Nat:=match m.at b with
 | some (.cs cs)=>cs.flatMap Ze3
 | _=>[]
def valArr (m:Hp) (v:V):RO -> List Nat
 | .val _=>arrs v
 | .own _=>[]
 | .dp _=>[]
 | .st _=>match v with
   | .ptr b _=>Zei m b
   | _=>[]
 | .mx _ off _ _=>match v with
   | .agg cs=>(cs.set off .nil).flatMap Ze3
   | _=>[]
def getOut (s:St) (i:Nat) (τ:Ty):Option (D τ):=match s.m.at i with
 | some (.cs cs)=>match asm s.m τ cs with
   | some (x,[])=>some x
   | _=>none
 | _=>none
def getIo (s:St) (i:Nat) (τ:Ty):Option (D (.sl τ)):=match s.m.at i with
 | some (.rows σ l)=>Zev (τ:=.sl σ) (σ:=.sl τ) l
 | _=>none
def Zfy {τ:Ty} (x:D τ):(ts:List Ty) -> D (Zdt ts) -> D (Zdt (τ :: ts))
 | [],_=>x
 | _ :: _,r=>(x,r)
def Zf0 (s:St):(i:Nat) -> (ps:List PT) -> Option (D (Zdt (Zdg ps)))
 | _,[]=>some ()
 | i,.val _ :: ps=>Zf0 s (i + 1) ps
 | i,.mv _ :: ps=>Zf0 s (i + 1) ps
 | i,.rc _ :: ps=>Zf0 s (i + 1) ps
 | i,.fn _ _ :: ps=>Zf0 s (i + 1) ps
 | i,.st τ :: ps=>match getOut s i τ with
   | some x=>match Zf0 s (i + 1) ps with
     | some r=>some (Zfy x _ r)
     | none=>none
   | none=>none
 | i,.io τ :: ps=>match getIo s i τ with
   | some x=>match Zf0 s (i + 1) ps with
     | some r=>some (Zfy x _ r)
     | none=>none
   | none=>none
 | i,.mx _ _ τ :: ps=>match getIo s i τ with
   | some x=>match Zf0 s (i + 1) ps with
     | some r=>some (Zfy x _ r)
     | none=>none
   | none=>none
def Zf8 (E:Env) (s:St) (ps:List PT):(ros:List (ResultVar × RO)) -> Option (D (Zdt (ros.map (·.2.ty) ++ Zdg ps)))
 | []=>Zf0 s 0 ps
 | (t,o) :: r=>match getRO s.m (rvV E s t) o with
   | some x=>match Zf8 E s ps r with
     | some y=>some (Zfy x _ y)
     | none=>none
   | none=>none
def keys:(i:Nat) -> List PT -> List Nat
 | _,[]=>[]
 | i,.st _ :: ps=>i :: keys (i + 1) ps
 | i,.io _ :: ps=>i :: keys (i + 1) ps
 | i,.mx _ _ _ :: ps=>i :: keys (i + 1) ps
 | i,_ :: ps=>keys (i + 1) ps
def mvsK:(i:Nat) -> List PT -> List Nat
 | _,[]=>[]
 | i,.mv _ :: ps=>i :: mvsK (i + 1) ps
 | i,_ :: ps=>mvsK (i + 1) ps
def offsK:(i:Nat) -> List PT -> List (Nat × Nat)
 | _,[]=>[]
 | i,.mx _ off _ :: ps=>(i,off) :: offsK (i + 1) ps
 | i,_ :: ps=>offsK (i + 1) ps
def nodupB:List Nat -> Bool
 | []=>true
 | i :: r=>!r.contains i && nodupB r
def retOk (E:Env) (s:St) (ps:List PT) (ros:List (ResultVar × RO)):Bool :=
 let own:=ros.filterMap (fun p=>ownId (rvV E s p.1) p.2)
 nodupB (own ++ keys 0 ps) && (ros.flatMap (fun p=>valArr s.m (rvV E s p.1) p.2) ++ (keys 0 ps).flatMap (Zei s.m)).all fun b=>!(own ++ keys 0 ps).contains b
def retK (E:Env) (ps:List PT) (ros:List (ResultVar × RO)):Kt (D (Zdt (ros.map (·.2.ty) ++ Zdg ps)))
 | .ret,s=>if retOk E s ps ros = true then Zf8 E s ps ros else none
 | .normal,s=>if retOk E s ps ros = true then Zf8 E s ps ros else none
 | .exit _,_=>none
def Zfz:(i:Nat) -> (ps:List PT) -> D (Zdt (ps.map PT.ty)) -> List (Nat × V) × Hp
 | _,[],_=>([],[])
 | i,[p],x=>match p with
   | .val τ=>([(i,.val τ x)],[])
   | .st τ=>([(i,.ptr i 0)],[(i,some (.cs (Zds τ x)))])
   | .io τ=>([(i,.arr i)],[(i,some (.rows τ x))])
   | .rc τ=>([(i,.rc (Zds τ x))],[])
   | .fn f cs=>([(i,.fn f (capsV cs x))],[])
   | .mx τ off σ=>match Zhl (Zds τ x) off σ with
     | some l=>([(i,.agg ((Zds τ x).set off (.arr i)))],[(i,some (.rows σ l))])
     | none=>([],[])
   | .mv τ=>([(i,.arr i)],[(i,some (Zif τ x))])
 | i,p :: q :: r,x=>match Zfz (i + 1) (q :: r) x.2 with
   | (ts,m)=>match p with
     | .val τ=>((i,.val τ x.1) :: ts,m)
     | .st τ=>((i,.ptr i 0) :: ts,(i,some (.cs (Zds τ x.1))) :: m)
     | .io τ=>((i,.arr i) :: ts,(i,some (.rows τ x.1)) :: m)
     | .rc τ=>((i,.rc (Zds τ x.1)) :: ts,m)
     | .fn f cs=>((i,.fn f (capsV cs x.1)) :: ts,m)
     | .mx τ off σ=>match Zhl (Zds τ x.1) off σ with
       | some l=>((i,.agg ((Zds τ x.1).set off (.arr i))) :: ts,(i,some (.rows σ l)) :: m)
       | none=>(ts,m)
     | .mv τ=>((i,.arr i) :: ts,(i,some (Zif τ x.1)) :: m)
def initS (ps:List PT) (x:D (Zdt (ps.map PT.ty))):St:=match Zfz 0 ps x with
 | (ts,m)=>{ t:=ts,m:=m,n:=ps.length }
def fnR (E:Env) (A:Ann) (c:Code) (ps:List PT) (ros:List (ResultVar × RO)) (x:D (Zdt (ps.map PT.ty))):Option (D (Zdt (ros.map (·.2.ty) ++ Zdg ps))) :=
 run E A c (initS ps x) (retK E ps ros)
def takeCap:(c:CT) -> V -> Option (D c.ty)
 | .val τ,.val σ x=>Zev x
 | .rc τ,.rc cs=>match asm [] τ cs with
   | some (x,[])=>some x
   | _=>none
 | _,_=>none
def takeCaps:(cs:List CT) -> List V -> Option (D (Zdt (cs.map CT.ty)))
 | [],[]=>some ()
 | [c],[v]=>takeCap c v
 | c :: d :: r,v :: vs=>match takeCap c v with
   | some x=>match takeCaps (d :: r) vs with
     | some y=>some (x,y)
     | none=>none
   | none=>none
 | _,_=>none
def Zg3:(p:PT) -> V -> Option (D p.ty)
 | .val τ,.val σ x=>Zev x
 | .io τ,.val σ x=>Zev x
 | .mv τ,.val σ x=>Zev x
 | .st τ,.rc cs=>match asm [] τ cs with
   | some (x,[])=>some x
   | _=>none
 | .rc τ,.rc cs=>match asm [] τ cs with
   | some (x,[])=>some x
   | _=>none
 | .fn f cs,.fn g caps=>if f = g then takeCaps cs caps else none
 | .mx τ off σ,.val ρ x=>match Zev (τ:=ρ) (σ:=τ) x with
   | some x=>if τ.agg = true then (match Zhl (Zds τ x) off σ with
     | some _=>some x
     | none=>none) else none
   | none=>none
 | _,_=>none
def Zh0:(ps:List PT) -> List V -> Option (D (Zdt (ps.map PT.ty)))
 | [],[]=>some ()
 | [p],[v]=>Zg3 p v
 | p :: q :: r,v :: vs=>match Zg3 p v with
   | some x=>match Zh0 (q :: r) vs with
     | some y=>some (x,y)
     | none=>none
   | none=>none
 | _,_=>none
def Zez {τ:Ty}:(ts:List Ty) -> D (Zdt (τ :: ts)) -> D τ
 | [],x=>x
 | _ :: _,x=>x.1
def Zex {τ:Ty}:(ts:List Ty) -> D (Zdt (τ :: ts)) -> D (Zdt ts)
 | [],_=>()
 | _ :: _,x=>x.2
def Ze5:(i:Nat) -> (ps:List PT) -> D (Zdt (Zdg ps)) -> List (Nat × Bx)
 | _,[],_=>[]
 | i,.val _ :: ps,x=>Ze5 (i + 1) ps x
 | i,.mv _ :: ps,x=>Ze5 (i + 1) ps x
 | i,.rc _ :: ps,x=>Ze5 (i + 1) ps x
 | i,.fn _ _ :: ps,x=>Ze5 (i + 1) ps x
 | i,.st τ :: ps,x=>(i,.cs (Zds τ (Zez (τ:=τ) _ x))) :: Ze5 (i + 1) ps (Zex (τ:=τ) _ x)
 | i,.io τ :: ps,x=>(i,.rows τ (Zez (τ:=.sl τ) _ x)) :: Ze5 (i + 1) ps (Zex (τ:=.sl τ) _ x)
 | i,.mx _ _ τ :: ps,x=>(i,.rows τ (Zez (τ:=.sl τ) _ x)) :: Ze5 (i + 1) ps (Zex (τ:=.sl τ) _ x)
def Zb1 (ps:List PT):(ros:List (ResultVar × RO)) -> D (Zdt (ros.map (·.2.ty) ++ Zdg ps)) -> Nat -> List V × List Bx × List (Nat × Bx)
 | [],x,_=>([],[],Ze5 0 ps x)
 | (t,o) :: r,x,k=>match o with
   | .val τ=>match Zb1 ps r (Zex _ x) k with
     | (vs,bs,os)=>(.val τ (Zez _ x) :: vs,bs,os)
   | .own τ=>match Zb1 ps r (Zex _ x) (k + 1) with
     | (vs,bs,os)=>(.arr k :: vs,.rows τ (Zez (τ:=.sl τ) _ x) :: bs,os)
   | .dp τ=>match Zb1 ps r (Zex _ x) (k + 1) with
     | (vs,bs,os)=>(.arr k :: vs,.dp τ (Zez (τ:=.sl τ) _ x) :: bs,os)
   | .st τ=>match Zb1 ps r (Zex _ x) (k + 1) with
     | (vs,bs,os)=>(.ptr k 0 :: vs,.cs (Zds τ (Zez (τ:=τ) _ x)) :: bs,os)
   | .mx τ off σ es=>match Zb1 ps r (Zex (τ:=τ) _ x) (k + 1) with
     | (vs,bs,os)=>(.agg ((empL (Zds τ (Zez (τ:=τ) _ x)) es).set off (.arr k)) :: vs,.rows σ ((Zhl (Zds τ (Zez (τ:=τ) _ x)) off σ).getD []) :: bs,os)
def emK:List (ResultVar × RO) -> List Nat
 | []=>[]
 | (_,.mx _ _ _ es) :: r=>es ++ emK r
 | _ :: r=>emK r
def Zfo (ps:List PT) (ros:List (ResultVar × RO)) (x:D (Zdt (ros.map (·.2.ty) ++ Zdg ps))):Res :=
 match Zb1 ps ros x 0 with
 | (vs,bs,os)=>match vs with
   | [v]=>{ v:=v,bs:=bs,outs:=os,offs:=offsK 0 ps,mvs:=mvsK 0 ps,em:=emK ros }
   | vs=>{ v:=.tup vs,bs:=bs,outs:=os,offs:=offsK 0 ps,mvs:=mvsK 0 ps,em:=emK ros }
def entry (ps:List PT) (ros:List (ResultVar × RO)) (f:D (Zdt (ps.map PT.ty)) -> Option (D (Zdt (ros.map (·.2.ty) ++ Zdg ps)))):Zda :=
 fun R args K=>match Zh0 ps args with
  | some x=>bindO (f x) fun y=>K (Zfo ps ros y)
  | none=>none
end Go.E
namespace Go.E
open Go Go.RowKit
theorem loopR_def {R:Type} (A:Ann) (a:Code) (B:St -> Kt R -> Option R) (κ:Kt R) (s:St):loopR A a B κ s = lim fun k=>iter A a B κ k s:=congrFun (hide_eq _) s
theorem joinK_eq {R:Type} (A:Ann) (b:Code) (rb:St -> Kt R -> Option R) (κ:Kt R) (s:St):joinK A b rb κ s = rb (canAt A.kp A.jn b s) κ:=by
 unfold joinK canAt
 split
 · split
   · rw [hide_eq]
   · rfl
 · rfl
theorem Ziq {R:Type} (A:Ann) (b:Code) (rb:St -> Kt R -> Option R) (κ:Kt R) (s:St):seqK A b rb κ .normal s = rb (canAt A.kp A.jn b s) κ:=joinK_eq A b rb κ s
def Zdz (w:World) (b off:Nat) (cs:List Value):Prop:=∀ j v,cs[j]? = some v -> w.cell? ⟨b,off + j,none⟩ = some v
inductive RQ (F:Nat -> Prop) (w:World):Q -> List Value -> Prop
 | mk (kind:Int) (field text:ByteArray) (low high:Int) (parts:List Q) (a:Option Addr) (cap:Nat) (c:Nat -> List Value)
   (h1:parts.length <= cap) (h2:a = none -> cap = 0) (h3:∀ ad,a = some ad -> 0 < parts.length -> ad.spot = none /\ F ad.block)
   (h4:∀ i x,parts[i]? = some x -> RQ F w x (c i)) (h5:∀ ad i x,a = some ad -> parts[i]? = some x -> Zdz w ad.block (ad.off + i * 6) (c i)) :
   RQ F w (.mk kind field text low high parts) [.int .i64 kind,.string field,.string text,.int .i64 low,.int .i64 high,.slice a parts.length cap]
abbrev asL {e:Ty} (l:D (.sl e)):List (D e):=l
def RC (F:Nat -> Prop) (w:World):(τ:Ty) -> D τ -> List Value -> Prop
 | .int k,n,cs=>cs = [.int k n]
 | .bool,b,cs=>cs = [.bool b]
 | .str,s,cs=>cs = [.string s]
 | .err,b,cs=>∃ v,cs = [v] /\ (b = false -> v = .nilIface) /\ (b = true -> ∃ t x,v = .iface t x)
 | .unit,_,cs=>cs = []
 | .pr a b,x,cs=>∃ c d,cs = c ++ d /\ RC F w a x.1 c /\ RC F w b x.2 d
 | .sl e,l,cs=>∃ a cap,cs = [.slice a (List.length l) cap] /\ List.length l <= cap /\ (a = none -> cap = 0) /\ ∀ ad,a = some ad -> 0 < List.length l -> ad.spot = none /\ F ad.block /\
   ∀ (i:Nat) (x:D e),(asL l)[i]? = some x -> ∃ c,RC F w e x c /\ Zdz w ad.block (ad.off + i * e.width) c
 | .q,x,cs=>RQ F w x cs
def Zgu (F:Nat -> Prop) (w:World) (τ:Ty) (l:List (D τ)) (ad:Addr):Prop :=
 ∀ (i:Nat) x,l[i]? = some x -> ∃ c,RC F w τ x c /\ Zdz w ad.block (ad.off + i * τ.width) c
theorem RQ.len {F:Nat -> Prop} {w:World} {x:Q} {cs:List Value} (h:RQ F w x cs):cs.length = 6:=by cases h; rfl
theorem RC.len {F:Nat -> Prop} {w:World}:∀ {τ:Ty} {x:D τ} {cs:List Value},RC F w τ x cs -> cs.length = τ.width:=by
 intro τ
 induction τ with
 | int k=>intro x cs h; simp only [RC] at h; subst h; rfl
 | bool=>intro x cs h; simp only [RC] at h; subst h; rfl
 | str=>intro x cs h; simp only [RC] at h; subst h; rfl
 | err=>intro x cs h; simp only [RC] at h; obtain ⟨v,rfl,_⟩:=h; rfl
 | unit=>intro x cs h; simp only [RC] at h; subst h; rfl
 | pr a b iha ihb=>intro x cs h; simp only [RC] at h; obtain ⟨c,d,rfl,h1,h2⟩:=h; simp [Ty.width,iha h1,ihb h2]
 | sl e ih=>intro x cs h; simp only [RC] at h; obtain ⟨a,cap,rfl,_⟩:=h; rfl
 | q=>intro x cs h; simp only [RC] at h; exact h.len
def Keep (F:Nat -> Prop) (w w':World):Prop:=∀ b off v,F b -> w.cell? ⟨b,off,none⟩ = some v -> w'.cell? ⟨b,off,none⟩ = some v
theorem Keep.cells {F:Nat -> Prop} {w w':World} (h:Keep F w w') {b off:Nat} {cs:List Value} (hb:F b) (hc:Zdz w b off cs):Zdz w' b off cs :=
 fun j v hj=>h _ _ _ hb (hc j v hj)
theorem RQ.mono {F F':Nat -> Prop} {w w':World} (hF:∀ b,F b -> F' b) (hk:Keep F w w') {x:Q} {cs:List Value} (h:RQ F w x cs):RQ F' w' x cs:=by
 induction h with
 | mk kind field text low high parts a cap c h1 h2 h3 h4 h5 ih =>
   exact .mk _ _ _ _ _ _ _ _ c h1 h2 (fun ad e hc=>⟨(h3 ad e hc).1,hF _ (h3 ad e hc).2⟩) ih (fun ad i x e hx=>hk.cells (h3 ad e (by have:=(List.getElem?_eq_some_iff.1 hx).1; omega)).2 (h5 ad i x e hx))
theorem RC.mono {F F':Nat -> Prop} {w w':World} (hF:∀ b,F b -> F' b) (hk:Keep F w w'):∀ {τ:Ty} {x:D τ} {cs:List Value},RC F w τ x cs -> RC F' w' τ x cs:=by
 intro τ
 induction τ with
 | int k=>intro x cs h; exact h
 | bool=>intro x cs h; exact h
 | str=>intro x cs h; exact h
 | err=>intro x cs h; exact h
 | unit=>intro x cs h; exact h
 | pr a b iha ihb=>intro x cs h; simp only [RC] at h ⊢; obtain ⟨c,d,e,h1,h2⟩:=h; exact ⟨c,d,e,iha h1,ihb h2⟩
 | sl e ih =>
   intro x cs h; simp only [RC] at h ⊢
   obtain ⟨a,cap,e1,h1,h2,h3⟩:=h
   refine ⟨a,cap,e1,h1,h2,fun ad ea hc=>?_⟩
   obtain ⟨g1,g2,g3⟩:=h3 ad ea hc
   refine ⟨g1,hF _ g2,fun i y hy=>?_⟩
   obtain ⟨c,k1,k2⟩:=g3 i y hy
   exact ⟨c,ih k1,hk.cells g2 k2⟩
 | q=>intro x cs h; simp only [RC] at h ⊢; exact h.mono hF hk
theorem Zgu.mono {F F':Nat -> Prop} {w w':World} (hF:∀ b,F b -> F' b) (hk:Keep F w w') {τ:Ty} {l:List (D τ)} {ad:Addr} (h:Zgu F w τ l ad)
  (hc:∀ off v,w.cell? ⟨ad.block,off,none⟩ = some v -> w'.cell? ⟨ad.block,off,none⟩ = some v):Zgu F' w' τ l ad:=fun i x hx=>by
 obtain ⟨c,h1,h2⟩:=h i x hx
 exact ⟨c,h1.mono hF hk,fun j v hj=>hc _ _ (h2 j v hj)⟩
structure MB where
 a:Option Addr
 len:Nat
 cap:Nat
 wd:Nat
abbrev Mu:=Nat -> Option (Option MB)
section
variable (F B:Nat -> Prop) (w:World) (μ:Mu)
mutual
def R:V -> Value -> Prop
 | .undef,_=>True
 | .val τ x,v=>match τ.agg with
   | true=>∃ cs,v = .agg cs /\ RC F w τ x cs.toList
   | false=>RC F w τ x [v]
 | .nil,v=>v = .slice none 0 0
 | .nilp,v=>v = .pointer none
 | .agg cs,v=>∃ vs,v = .agg vs /\ RL cs vs.toList
 | .tup cs,v=>∃ vs,v = .tuple vs /\ RL cs vs.toList
 | .arr b,v=>∃ o,μ b = some o /\ ∃ a n c,v = .slice a n c /\ ∀ q,o = some q -> a = q.a /\ n = q.len /\ c = q.cap
 | .ptr b off,v=>∃ o,μ b = some o /\ ∃ p,v = .pointer (some p) /\ ∀ q,o = some q -> ∃ ad,q.a = some ad /\ p = ⟨ad.block,ad.off + off,none⟩
 | .ep b i off,v=>∃ o,μ b = some o /\ ∃ p,v = .pointer (some p) /\ ∀ q,o = some q -> ∃ ad,q.a = some ad /\ p = ⟨ad.block,ad.off + (i.toNat * q.wd + off),none⟩
 | .cut b lo hi,v=>∃ o,μ b = some o /\ ∃ a n c,v = .slice a n c /\ ∀ q,o = some q -> (n:Int) = hi - lo /\ 0 <= lo /\ hi <= q.len /\ n <= c /\ (a = none -> c = 0) /\ ∀ ad,a = some ad -> 0 < n -> ∃ ad0,q.a = some ad0 /\ ad = ⟨ad0.block,ad0.off + lo.toNat * q.wd,none⟩
 | .rp τ x,v=>∃ ad cs,v = .pointer (some ad) /\ ad.spot = none /\ F ad.block /\ RC F w τ x cs /\ Zdz w ad.block ad.off cs
 | .rc cs,v=>∃ ad vs,v = .pointer (some ad) /\ ad.spot = none /\ B ad.block /\ RL cs vs /\ Zdz w ad.block ad.off vs
 | .fn f caps,v=>∃ captured,v = .func (.func f) #[] captured /\ RL caps captured.toList
 | .map b,v=>∃ o,μ b = some o /\ ∃ n,v = .map (some n) /\ ∀ q,o = some q -> ∃ ad,q.a = some ad /\ n = ad.block
 | .it b,v=>∃ o,μ b = some o /\ ∃ n,v = .pointer (some ⟨n,0,none⟩) /\ ∀ q,o = some q -> n = q.len
def RL:List V -> List Value -> Prop
 | [],[]=>True
 | a :: x,v :: y=>R a v /\ RL x y
 | [],_ :: _=>False
 | _ :: _,[]=>False
end
end
def Mu.le (μ μ':Mu):Prop:=∀ b o,μ b = some o -> ∃ o',μ' b = some o' /\ (o' = none ∨ o' = o)
theorem Mu.le_refl (μ:Mu):μ.le μ:=fun b o h=>⟨o,h,.inr rfl⟩
theorem Mu.le_trans {μ μ' μ'':Mu} (h:μ.le μ') (h':μ'.le μ''):μ.le μ'':=fun b o e=>by
 obtain ⟨o',e',k⟩:=h b o e
 obtain ⟨o'',e'',k'⟩:=h' b o' e'
 refine ⟨o'',e'',?_⟩
 rcases k' with k' | k'
 · exact .inl k'
 · subst k'; exact k
section
variable {F F' B B':Nat -> Prop} {w w':World} {μ μ':Mu}
mutual
theorem R.mono (hF:∀ b,F b -> F' b) (hB:∀ b,B b -> B' b) (hk:Keep F w w') (hkB:Keep B w w') (hμ:μ.le μ'):∀ (a:V) (v:Value),R F B w μ a v -> R F' B' w' μ' a v
 | .undef,_,_=>by simp only [R]
 | .val τ x,v,h=>by
   simp only [R] at h ⊢
   cases hτ:τ.agg with
   | true=>rw [hτ] at h; obtain ⟨cs,e,k⟩:=h; exact ⟨cs,e,RC.mono hF hk k⟩
   | false=>rw [hτ] at h; exact RC.mono hF hk h
 | .nil,_,h=>by simp only [R] at h ⊢; exact h
 | .nilp,_,h=>by simp only [R] at h ⊢; exact h
 | .agg cs,v,h=>by simp only [R] at h ⊢; obtain ⟨vs,e,k⟩:=h; exact ⟨vs,e,RL.mono hF hB hk hkB hμ cs _ k⟩
 | .tup cs,v,h=>by simp only [R] at h ⊢; obtain ⟨vs,e,k⟩:=h; exact ⟨vs,e,RL.mono hF hB hk hkB hμ cs _ k⟩
 | .arr b,v,h=>by
   simp only [R] at h ⊢; obtain ⟨o,e,x,y,z,ev,k⟩:=h; obtain ⟨o',e',k'⟩:=hμ b o e
   exact ⟨o',e',x,y,z,ev,fun q hq=>k q (by rcases k' with k' | k' <;> simp_all)⟩
 | .ptr b off,v,h=>by
   simp only [R] at h ⊢; obtain ⟨o,e,x,ev,k⟩:=h; obtain ⟨o',e',k'⟩:=hμ b o e
   exact ⟨o',e',x,ev,fun q hq=>k q (by rcases k' with k' | k' <;> simp_all)⟩
 | .ep b i off,v,h=>by
   simp only [R] at h ⊢; obtain ⟨o,e,x,ev,k⟩:=h; obtain ⟨o',e',k'⟩:=hμ b o e
   exact ⟨o',e',x,ev,fun q hq=>k q (by rcases k' with k' | k' <;> simp_all)⟩
 | .cut b lo hi,v,h=>by
   simp only [R] at h ⊢; obtain ⟨o,e,x,y,z,ev,k⟩:=h; obtain ⟨o',e',k'⟩:=hμ b o e
   exact ⟨o',e',x,y,z,ev,fun q hq=>k q (by rcases k' with k' | k' <;> simp_all)⟩
 | .rp τ x,v,h=>by
   simp only [R] at h ⊢; obtain ⟨ad,cs,e,h1,h2,h3,h4⟩:=h
   exact ⟨ad,cs,e,h1,hF _ h2,h3.mono hF hk,hk.cells h2 h4⟩
 | .rc cs,v,h=>by
   simp only [R] at h ⊢; obtain ⟨ad,vs,e,h1,h2,h3,h4⟩:=h
   exact ⟨ad,vs,e,h1,hB _ h2,RL.mono hF hB hk hkB hμ cs _ h3,hkB.cells h2 h4⟩
 | .fn f caps,v,h=>by
   simp only [R] at h ⊢; obtain ⟨y,e,k⟩:=h; exact ⟨y,e,RL.mono hF hB hk hkB hμ caps _ k⟩
 | .map b,v,h=>by
   simp only [R] at h ⊢; obtain ⟨o,e,x,ev,k⟩:=h; obtain ⟨o',e',k'⟩:=hμ b o e
   exact ⟨o',e',x,ev,fun q hq=>k q (by rcases k' with k' | k' <;> simp_all)⟩
 | .it b,v,h=>by
   simp only [R] at h ⊢; obtain ⟨o,e,x,ev,k⟩:=h; obtain ⟨o',e',k'⟩:=hμ b o e
   exact ⟨o',e',x,ev,fun q hq=>k q (by rcases k' with k' | k' <;> simp_all)⟩
theorem RL.mono (hF:∀ b,F b -> F' b) (hB:∀ b,B b -> B' b) (hk:Keep F w w') (hkB:Keep B w w') (hμ:μ.le μ'):∀ (a:List V) (v:List Value),RL F B w μ a v -> RL F' B' w' μ' a v
 | [],[],h=>by simp only [RL]
 | a :: x,v :: y,h=>by simp only [RL] at h ⊢; exact ⟨R.mono hF hB hk hkB hμ a v h.1,RL.mono hF hB hk hkB hμ x y h.2⟩
 | [],_ :: _,h=>by simp only [RL] at h
 | _ :: _,[],h=>by simp only [RL] at h
end
end
def Stor (w:World) (b off n:Nat):Prop:=∀ k,k < n -> (w.cell? ⟨b,off + k,none⟩).isSome = true /\ w.frozen? ⟨b,off + k,none⟩ = false
def ElemsR {α:Type} (R:(Nat -> Prop) -> α -> List Value -> Prop) (w:World) (S:Nat -> Prop) (wd:Nat) (l:List α) (ad:Addr) (p:Nat -> Prop):Prop :=
 ∃ T:Nat -> Nat -> Prop,(∀ i b,T i b -> S b) /\ (∀ i j b,T i b -> T j b -> i = j) /\ ∀ i x,p i -> l[i]? = some x -> ∃ c,R (T i) x c /\ Zdz w ad.block (ad.off + i * wd) c
def DR (w:World):(τ:Ty) -> (Nat -> Prop) -> D τ -> List Value -> Prop
 | .pr a b,S,x,cs=>∃ S1 S2 c d,cs = c ++ d /\ (∀ k,S1 k -> S k) /\ (∀ k,S2 k -> S k) /\ (∀ k,S1 k -> ¬ S2 k) /\ DR w a S1 x.1 c /\ DR w b S2 x.2 d
 | .sl e,S,l,cs=>∃ a cap,cs = [.slice a (List.length l) cap] /\ List.length l <= cap /\ (a = none -> cap = 0) /\ ∀ ad,a = some ad -> ad.spot = none /\ S ad.block /\ Stor w ad.block ad.off (cap * e.width) /\
   ElemsR (DR w e) w (fun k=>S k /\ k ≠ ad.block) e.width (asL l) ad (fun _=>True)
 | .q,_,_,_=>False
 | .int k,_,n,cs=>cs = [.int k n]
 | .bool,_,b,cs=>cs = [.bool b]
 | .str,_,s,cs=>cs = [.string s]
 | .err,_,b,cs=>RC (fun _=>False) w .err b cs
 | .unit,_,_,cs=>cs = []
abbrev Elems (w:World) (S:Nat -> Prop) (τ:Ty) (l:List (D τ)) (ad:Addr) (p:Nat -> Prop):Prop:=ElemsR (DR w τ) w S τ.width l ad p
def encC:(τ:Ty) -> D τ -> List Value
 | .int k,n=>[.int k n]
 | .str,s=>[.string s]
 | .pr a b,x=>encC a x.1 ++ encC b x.2
 | _,_=>[]
def encV (τ:Ty) (x:D τ):Value:=match τ.agg with
 | true=>.agg (encC τ x).toArray
 | false=>(encC τ x).headD undef
def leftE (es:Array MapEntry) (seen:Array Nat):List MapEntry:=es.toList.filter fun e=>!seen.contains e.born
def Zhp (w:World) (S:Nat -> Prop) (τ:Ty) {κ:Ty} (l:List (D κ × D τ)) (es:List MapEntry) (p:D κ -> Prop):Prop :=
 ∃ T:Nat -> Nat -> Prop,(∀ i b,T i b -> S b) /\ (∀ i j b,T i b -> T j b -> i = j) /\ ∀ (i:Nat) x e,p x.1 -> l[i]? = some x -> es[i]? = some e -> DR w τ (T i) x.2 [e.val]
structure MapOk (w:World) (κ τ:Ty) (b:Nat) (es:Array MapEntry) (clock:Nat):Prop where
 heap:w.heap[b]? = some (.map es clock)
 born:∀ e ∈ es.toList,e.born < clock
 nodup:(es.toList.map (·.born)).Nodup
 keys:(es.toList.map (·.key)).Nodup
structure IterOk (w:World) (κ τ:Ty) (b r:Nat) (es:Array MapEntry) (clock since:Nat) (seen:Array Nat) (c0:Nat):Prop where
 map:MapOk w κ τ b es clock
 heap:w.heap[r]? = some (.mapIter (some b) since seen c0)
 old:∀ e ∈ es.toList,e.born < since
 sc:since <= c0
 sk:since <= clock
def Nest (w:World) (q:MB) (S:Nat -> Prop):Bx -> Prop
 | .dp τ l=>∀ ad,q.a = some ad -> Elems w S τ l ad (fun _=>True)
 | .dpx τ l k x off _=>∀ ad,q.a = some ad -> ∃ T:Nat -> Nat -> Prop,(∀ i b,T i b -> S b) /\ (∀ i j b,T i b -> T j b -> i = j) /\ (∀ (i:Nat) y,(i:Int) ≠ k -> l[i]? = some y -> ∃ c,DR w τ (T i) y c /\ Zdz w ad.block (ad.off + i * τ.width) c) /\
   ∃ c:List Value,DR w τ (T k.toNat) x (c.set off (.slice none 0 0)) /\ ∀ j v,j ≠ off -> c[j]? = some v -> w.cell? ⟨ad.block,ad.off + k.toNat * τ.width + j,none⟩ = some v
 | .dpm τ l r=>∀ ad,q.a = some ad -> Elems w S τ l ad (fun i=>r <= (i:Int))
 | .mp κ τ l=>∀ ad,q.a = some ad -> ∃ es clock,MapOk w κ τ ad.block es clock /\ es.toList.map (·.key) = l.map (fun x=>encV κ x.1) /\ Zhp w S τ l es.toList (fun _=>True)
 | .mpx κ τ l k=>∀ ad,q.a = some ad -> ∃ es clock,MapOk w κ τ ad.block es clock /\ es.toList.map (·.key) = l.map (fun x=>encV κ x.1) /\ Zhp w S τ l es.toList (fun y=>y ≠ k)
 | .mpi κ τ l=>∀ ad,q.a = some ad -> S q.len /\ ∃ es clock since seen c0,IterOk w κ τ ad.block q.len es clock since seen c0 /\ (leftE es seen).map (·.key) = l.map (fun x=>encV κ x.1) /\ Zhp w (fun j=>S j /\ j ≠ q.len) τ l (leftE es seen) (fun _=>True)
 | .mpe κ τ l k y=>∀ ad,q.a = some ad -> S q.len /\ ∃ (es:Array MapEntry) (clock since:Nat) (seen:Array Nat) (e:MapEntry),IterOk w κ τ ad.block q.len es clock since (seen.push e.born) clock /\ (leftE es (seen.push e.born)).map (·.key) = l.map (fun x=>encV κ x.1) /\ e ∈ es.toList /\ e.key = encV κ k /\
   ∃ S1 S2:Nat -> Prop,(∀ j,S1 j -> S j /\ j ≠ q.len) /\ (∀ j,S2 j -> S j /\ j ≠ q.len) /\ (∀ j,S1 j -> ¬ S2 j) /\ Zhp w S1 τ l (leftE es (seen.push e.born)) (fun _=>True) /\ DR w τ S2 y [e.val]
 | _=>True
def RowBox (w:World) (n wd:Nat) (q:MB):Prop:=q.len = n /\ q.len <= q.cap /\ q.wd = wd /\ (q.a = none -> q.cap = 0) /\ ∀ ad,q.a = some ad -> ad.spot = none /\ Stor w ad.block ad.off (q.cap * wd)
def Zd2 (F B:Nat -> Prop) (w:World) (μ:Mu):Bx -> MB -> Prop
 | .cs cs,q=>∃ ad vs,q.a = some ad /\ ad.spot = none /\ RL F B w μ cs vs /\ Zdz w ad.block ad.off vs /\ Stor w ad.block ad.off cs.length
 | .rows τ l,q=>q.len = l.length /\ q.len <= q.cap /\ q.wd = τ.width /\ (q.a = none -> q.cap = 0) /\
   ∀ ad,q.a = some ad -> ad.spot = none /\ Zgu F w τ l ad /\ Stor w ad.block ad.off (q.cap * τ.width)
 | .fz τ l,q=>q.len = l.length /\ q.len <= q.cap /\ q.wd = τ.width /\ (q.a = none -> q.cap = 0) /\
   ∀ ad,q.a = some ad -> ad.spot = none /\ F ad.block /\ Zgu F w τ l ad
 | .dp τ l,q=>RowBox w l.length τ.width q
 | .dpx τ l k x off v,q=>RowBox w l.length τ.width q /\ 0 <= k /\ k.toNat < l.length /\ off < τ.width /\ ∀ ad,q.a = some ad -> ∃ cv,R F B w μ v cv /\ w.cell? ⟨ad.block,ad.off + k.toNat * τ.width + off,none⟩ = some cv
 | .dpm τ l r,q=>RowBox w l.length τ.width q /\ 0 <= r
 | _,q=>∃ ad,q.a = some ad /\ ad.spot = none
def Bx.plain:Bx -> Bool
 | .cs _=>true
 | .rows _ _=>true
 | .fz _ _=>true
 | _=>false
theorem Ze4 {x:Bx} (h:x.plain = true) (w:World) (q:MB) (S:Nat -> Prop):Nest w q S x:=by
 cases x <;> first | trivial | cases h
def Bx.isFz:Bx -> Bool
 | .fz _ _=>true
 | _=>false
structure Ext (S:Prop) (Ob:Nat -> Prop) (w0 w:World):Prop where
 os:w.os = w0.os
 tape:w.tape = w0.tape
 output:w.output = w0.output
 size:w0.heap.size <= w.heap.size
 block:∀ k,k < w0.heap.size -> ¬ Ob k -> w.heap[k]? = w0.heap[k]?
 drawn:S -> w0.drawn <= w.drawn
end Go.E
namespace Go.E
open Go Go.RowKit
def Natu (c:Zda):Prop:=∀ (R:Type) (args:List V) (K:Res -> Option R),c R args K = (c Res args some).bind K
structure Env.ok (E:Env):Prop where
 nat:∀ g c,look E.C g = some c -> Natu c
section
variable {E:Env} {R R':Type}
theorem Zdv (b:Bool) (x y:Option R) (f:R -> Option R'):(iteB b x y).bind f = iteB b (x.bind f) (y.bind f):=by
 unfold iteB; split <;> rfl
theorem Zfu {α:Type} (o:Option α) (g:α -> Option R) (f:R -> Option R'):(bindO o g).bind f = bindO o (fun x=>(g x).bind f):=by
 unfold bindO; cases o <;> rfl
theorem Zes (t:Nat) (K:TL -> Option R) (f:R -> Option R'):(wT E t K).bind f = wT E t (fun l=>(K l).bind f):=by
 unfold wT; split <;> rfl
theorem wE_bind (t:Nat) (K:TL -> Option R) (f:R -> Option R'):(wE E t K).bind f = wE E t (fun l=>(K l).bind f):=by
 unfold wE; rw [Zes]; congr 1; funext l; split
 · rw [Zes]
 · rfl
theorem wF_bind (t i:Nat) (K:Nat -> TL -> Option R) (f:R -> Option R'):(wF E t i K).bind f = wF E t i (fun o l=>(K o l).bind f):=by
 unfold wF; rw [Zes]; congr 1; funext l; split
 · split
   · rw [Zes]
   · rfl
 · rfl
theorem wI_bind (v:V) (K:Int -> Option R) (f:R -> Option R'):(wI v K).bind f = wI v (fun n=>(K n).bind f):=by
 unfold wI; split <;> rfl
theorem Zhz (s:St) (x:Option Operand) (d:Int) (K:Int -> Option R) (f:R -> Option R'):(wOI E s x d K).bind f = wOI E s x d (fun n=>(K n).bind f):=by
 unfold wOI; split
 · rw [wI_bind]
 · rfl
theorem zeroD_bind (τ:Ty) (cs:List V) (K:D τ -> Option R) (f:R -> Option R'):(zeroD τ cs K).bind f = zeroD τ cs (fun n=>(K n).bind f):=by
 unfold zeroD; split <;> rfl
theorem Zhg (τ:Ty) (x:D τ) (off:Nat) (l:TL) (m:Hp) (K:V -> Hp -> Option R) (f:R -> Option R'):(Zgx τ x off l m K).bind f = Zgx τ x off l m (fun v m=>(K v m).bind f):=by
 unfold Zgx; split <;> rfl
theorem cellK_bind (l:TL) (cs:List V) (off:Nat) (m:Hp) (K:V -> Hp -> Option R) (f:R -> Option R'):(cellK l cs off m K).bind f = cellK l cs off m (fun v m=>(K v m).bind f):=by
 unfold cellK; split
 · split <;> rfl
 · split <;> rfl
theorem callK_bind (hE:E.ok) (g:Nat) (tys:List Nat) (args:List V) (base:Nat) (m:Hp) (K:V -> Hp -> Option R) (f:R -> Option R') :
  (callK E g tys args base m K).bind f = callK E g tys args base m (fun v m=>(K v m).bind f):=by
 unfold callK; split
 · rename_i c hc
   rw [hE.nat g c hc R',hE.nat g c hc R,Option.bind_assoc]; congr 1; funext r; split
   · split <;> rfl
   · rfl
 · rfl
theorem takeD_bind {α:Type} (τ:Ty) (v:V) (m:Hp) (K:List (D τ) -> Hp -> Option R) (f:R -> Option α):(takeD τ v m K).bind f = takeD τ v m (fun r m=>(K r m).bind f):=by
 unfold takeD
 split
 · split
   · split <;> rfl
   · rfl
 · split
   · split
     · rw [Zdv]; rfl
     · rfl
   · split
     · rw [Zdv]; rfl
     · rfl
   · rfl
 · rfl
theorem appendD_bind {α:Type} (l:TL) (x y:V) (base:Nat) (m:Hp) (K:V -> Hp -> Option R) (f:R -> Option α):(Zih l x y base m K).bind f = Zih l x y base m (fun v m=>(K v m).bind f):=by
 unfold Zih
 split
 · rw [takeD_bind]; congr 1; funext r m
   split
   · rw [Zdv]; rfl
   · split
     · split
       · rw [Zdv]; rfl
       · rfl
     · rfl
   · rfl
 · rfl
theorem wM_bind {α:Type} (t:Nat) (K:TL -> TL -> Option R) (f:R -> Option α):(wM E t K).bind f = wM E t (fun lk le=>(K lk le).bind f):=by
 unfold wM; rw [Zes]; congr 1; funext l; split
 · rw [Zes]; congr 1; funext lk; rw [Zes]; congr 1; funext le; split <;> rfl
 · rfl
theorem lookupK_bind {α:Type} (lk le:TL) (mv kv:V) (base:Nat) (m:Hp) (K:V -> Hp -> Option R) (f:R -> Option α):(lookupK lk le mv kv base m K).bind f = lookupK lk le mv kv base m (fun v m=>(K v m).bind f):=by
 unfold lookupK
 split
 · split
   · split
     · split
       · split <;> rfl
       · split
         · rw [zeroD_bind]
         · rfl
     · rfl
   · rfl
 · rfl
theorem updK_bind {α:Type} (lk le:TL) (mv kv v:V) (m:Hp) (K:V -> Hp -> Option R) (f:R -> Option α):(updK lk le mv kv v m K).bind f = updK lk le mv kv v m (fun v m=>(K v m).bind f):=by
 unfold updK
 split
 · split
   · split
     · split
       · split
         · split
           · split
             · rfl
             · rw [Zdv]; rfl
           · rfl
         · rfl
       · rfl
     · rfl
   · split
     · split
       · split <;> rfl
       · rfl
     · rfl
 · rfl
theorem builtinK_bind (b:Builtin) (tys:List Nat) (xs:List V) (base:Nat) (m:Hp) (K:V -> Hp -> Option R) (f:R -> Option R') :
  (Zea E b tys xs base m K).bind f = Zea E b tys xs base m (fun v m=>(K v m).bind f):=by
 unfold Zea
 split
 · rw [Zes]; congr 1; funext l; split
   · split <;> rfl
   · split <;> first | rfl | (split <;> rfl)
   · rfl
 · rw [wE_bind]; congr 1; funext l; rw [wE_bind]; congr 1; funext l2; split
   · split
     · rw [Zdv]; rfl
     · split
       · split
         · rw [Zdv]; rfl
         · rfl
       · rfl
     · rfl
   · rw [appendD_bind]
 all_goals first | rfl | (split <;> rfl)
set_option maxHeartbeats 4000000 in
theorem opK_bind (hE:E.ok) (o:Op) (base:Nat) (s:St) (K:V -> Hp -> Option R) (f:R -> Option R') :
  (opK E o base s K).bind f = opK E o base s (fun v m=>(K v m).bind f):=by
 cases o
 case move x=>rfl
 case assign x=>rfl
 case call c =>
  simp only [opK]; split
  · rw [builtinK_bind]
  · split
    · rw [callK_bind hE]
    · rfl
  · rfl
 case pick c a b=>simp only [opK]; split <;> first | rfl | exact Zdv _ _ _ _
 case alloc t=>simp only [opK]; rw [Zes]
 case box t x=>simp only [opK]; rw [Zes]; congr 1; funext l; split <;> rfl
 case build t p=>simp only [opK]; rw [Zes]; congr 1; funext l; split <;> first | rfl | (split <;> rfl)
 case buildSlice t n p =>
  simp only [opK]; rw [wE_bind]; congr 1; funext l; split
  · rfl
  · rw [zeroD_bind]; congr 1; funext z; split
    · split
      · rfl
      · split <;> rfl
    · rfl
 case load t a =>
  simp only [opK]; rw [Zes]; congr 1; funext l; split
  · split
    · rw [cellK_bind]
    · rfl
  · rw [cellK_bind]
  · rw [Zhg]
  · split
    · rw [Zfu]; congr 1; funext x; rw [Zhg]
    · rw [Zfu]; congr 1; funext x; rw [Zhg]
    · split
      · rw [Zfu]; congr 1; funext x; split <;> rfl
      · split
        · rw [Zfu]; congr 1; funext x; rw [Zhg]
        · rfl
    · split
      · split
        · rw [Zdv]; rfl
        · rfl
      · rfl
    · rfl
  · rfl
 case store t a x =>
  simp only [opK]; rw [Zes]; congr 1; funext l; split
  · split
    · split <;> rfl
    · rfl
  · split
    · split
      · split
        · rfl
        · rw [Zfu]; congr 1; funext z; split <;> rfl
      · rfl
    · split
      · split
        · split
          · rw [Zdv]; rfl
          · rfl
        · rfl
      · rfl
    · rfl
  · rfl
 case nilCheck x=>simp only [opK]; split <;> rfl
 case binOp op xt x y yt =>
  simp only [opK]; split
  · split
    · split
      · rw [Zdv]; rfl
      · rw [Zdv]; rfl
      · split <;> rfl
    · rfl
  · split
    · rw [Zdv]; rfl
    · split <;> rfl
  · rw [Zes]; congr 1; funext l; split
    · split <;> rfl
    · rfl
  · rw [Zes]; congr 1; funext l; split
    · split
      · split <;> rfl
      · rfl
    · rfl
  · rw [Zes]; congr 1; funext l; split
    · split
      · split
        · split <;> rfl
        · rfl
      · rfl
    · rfl
 case unOp op t x=>simp only [opK]; split <;> rfl
 case convert a b x =>
  simp only [opK]; rw [Zes]; congr 1; funext ls; rw [Zes]; congr 1; funext l; split
  · split <;> rfl
  · rw [Zes]; congr 1; funext le; split
    · split <;> rfl
    · rfl
  · split
    · rw [Zes]; congr 1; funext le; split
      · split <;> rfl
      · rfl
    · rfl
  · rfl
 case fieldAddr t x f =>
  simp only [opK]; rw [wF_bind]; congr 1; funext o l; split <;> first | rfl | (split <;> rfl)
 case field t x f =>
  simp only [opK]; rw [wF_bind]; congr 1; funext o l; split
  · split
    · rw [Zhg]
    · rfl
  · rw [cellK_bind]
  · rfl
 case indexAddr t x i =>
  simp only [opK]; rw [wE_bind]; congr 1; funext tl; rw [wI_bind]; congr 1; funext n; split
  · split
    · split
      · rw [Zdv,Zdv]; rfl
      · rfl
    · split
      · rw [Zfu]
      · rfl
    · split
      · rw [Zdv,Zdv]; rfl
      · rfl
    · split
      · rw [Zdv,Zdv]; rfl
      · rfl
    · rfl
  · split
    · rw [Zfu]
    · rfl
  · rfl
 case index t x i =>
  simp only [opK]; rw [Zes]; congr 1; funext tl; rw [wI_bind]; congr 1; funext n; split
  · split <;> first | rfl | rw [Zfu]
  · rfl
 case slice t x lo hi mx =>
  simp only [opK]; split
  · rfl
  · rw [Zes]; congr 1; funext tl; split
    · split
      · rw [Zhz]; congr 1; funext l; rw [Zhz]; congr 1; funext h; rw [Zdv]; rfl
      · rfl
    · rw [Zes]; congr 1; funext tl; split
      · rw [Zhz]; congr 1; funext l; rw [Zhz]; congr 1; funext h; rw [Zdv]; rfl
      · split
        · split
          · split
            · rw [Zhz]; congr 1; funext l; rw [Zhz]; congr 1; funext h; rw [Zdv]; rfl
            · rfl
          · split
            · rw [Zhz]; congr 1; funext l; rw [Zhz]; congr 1; funext h; rw [Zdv]; rfl
            · rfl
          · rfl
        · rfl
    · rfl
 case makeSlice t l c =>
  simp only [opK]; rw [wE_bind]; congr 1; funext l; rw [zeroD_bind]; congr 1; funext z; rw [wI_bind]; congr 1; funext n; rw [wI_bind]; congr 1; funext k
  rw [Zdv,Zdv]; rfl
 case extract x i=>simp only [opK]; split <;> first | rfl | (split <;> rfl)
 case makeMap t x =>
  simp only [opK]; split
  · rw [wM_bind]
  · rfl
 case lookup t x i ok =>
  simp only [opK]; split
  · rw [wM_bind]; congr 1; funext lk le; rw [lookupK_bind]
  · rfl
 case mapUpdate t x i y=>simp only [opK]; rw [wM_bind]; congr 1; funext lk le; rw [updK_bind]
 case range t x=>simp only [opK]; rw [wM_bind]; congr 1; funext lk le; split <;> first | rfl | (split <;> rfl)
 case entry x =>
  simp only [opK]; split
  · split
    · split
      · rfl
      · split
        · rfl
        · split <;> rfl
    · rfl
  · rfl
 case makeFunc fn a b=>cases fn <;> first | rfl | (simp only [opK]; split <;> rfl)
 all_goals rfl
end
end Go.E
namespace Go.E
open Go Go.RowKit
def upd (μ:Mu) (b:Nat) (o:Option MB):Mu:=fun k=>if k = b then some o else μ k
structure DeepOk (w0:World) (Ob B F:Nat -> Prop) (μ:Mu) (m:Hp) (w:World) (ν:Nat -> Nat -> Prop):Prop where
 nest:∀ b x q,m.at b = some x -> μ b = some (some q) -> Nest w q (ν b) x
 own:∀ b x c,m.at b = some x -> ν b c -> ¬ F c /\ ¬ B c /\ c < w.heap.size /\ (w0.heap.size <= c ∨ Ob c)
 apart:∀ b x c b' x' q ad,m.at b = some x -> ν b c -> m.at b' = some x' -> x'.isFz = false -> μ b' = some (some q) -> q.a = some ad -> ad.block ≠ c
 inj:∀ b b' x x' c,m.at b = some x -> m.at b' = some x' -> ν b c -> ν b' c -> b = b'
def GEx (G:List (Nat × List V)) (w:World):Prop:=∀ g cs,look G g = some cs -> ∃ us e p,w.heap[g]? = some (.cells us e p) /\ us.size = cs.length
structure Mem (G:List (Nat × List V)) (w0:World) (Ob A B F:Nat -> Prop) (μ:Mu) (m:Hp) (w:World):Prop where
 ext:Ext (G = []) Ob w0 w
 box:∀ b x,m.at b = some x -> ∃ q,μ b = some (some q) /\ Zd2 F B w μ x q
 own:∀ b x q ad,m.at b = some x -> x.isFz = false -> μ b = some (some q) -> q.a = some ad -> ¬ F ad.block /\ ¬ B ad.block /\ ad.block < w.heap.size /\ (w0.heap.size <= ad.block ∨ Ob ad.block)
 inj:∀ b b' x x' q q' ad ad',m.at b = some x -> m.at b' = some x' -> x.isFz = false -> x'.isFz = false -> μ b = some (some q) -> μ b' = some (some q') ->
  q.a = some ad -> q'.a = some ad' -> ad.block = ad'.block -> b = b'
 fz:∀ b,F b -> b < w.heap.size /\ (A b ∨ w0.heap.size <= b ∨ Ob b)
 bz:∀ b,B b -> b < w0.heap.size /\ ¬ Ob b
 glob:(∀ g cs,look G g = some cs -> R F B w μ (.rc cs) (.pointer (some ⟨g,0,none⟩))) /\ GEx G w0
 deep:∃ ν,DeepOk w0 Ob B F μ m w ν
structure Tr (B:Nat -> Prop) (F F':Nat -> Prop) (μ μ':Mu) (w w':World):Prop where
 sub:∀ b,F b -> F' b
 keep:Keep F w w'
 keepB:Keep B w w'
 mu:μ.le μ'
theorem Tr.refl (B F:Nat -> Prop) (μ:Mu) (w:World):Tr B F F μ μ w w:=⟨fun _ h=>h,fun _ _ _ _ h=>h,fun _ _ _ _ h=>h,μ.le_refl⟩
theorem Tr.trans {B F F' F'':Nat -> Prop} {μ μ' μ'':Mu} {w w' w'':World} (h:Tr B F F' μ μ' w w') (k:Tr B F' F'' μ' μ'' w' w''):Tr B F F'' μ μ'' w w'' :=
 ⟨fun b hb=>k.sub b (h.sub b hb),fun b o v hb e=>k.keep b o v (h.sub b hb) (h.keep b o v hb e),fun b o v hb e=>k.keepB b o v hb (h.keepB b o v hb e),Mu.le_trans h.mu k.mu⟩
theorem Tr.R {B F F':Nat -> Prop} {μ μ':Mu} {w w':World} (h:Tr B F F' μ μ' w w') {a:V} {v:Value} (hr:R F B w μ a v):R F' B w' μ' a v :=
 R.mono h.sub (fun _ x=>x) h.keep h.keepB h.mu a v hr
theorem Tr.RL {B F F':Nat -> Prop} {μ μ':Mu} {w w':World} (h:Tr B F F' μ μ' w w') {a:List V} {v:List Value} (hr:RL F B w μ a v):RL F' B w' μ' a v :=
 RL.mono h.sub (fun _ x=>x) h.keep h.keepB h.mu a v hr
theorem Hp.at_cons (b:Nat) (o:Option Bx) (m:Hp) (k:Nat):Hp.at ((b,o) :: m) k = if b = k then o else Hp.at m k:=by
 unfold Hp.at; simp only [look]; by_cases h:b = k
 · simp only [h,if_true]; cases o <;> rfl
 · simp only [h,if_false]
def Same (w w':World) (b:Nat):Prop:=w'.heap[b]? = w.heap[b]?
theorem Same.cell {w w':World} {b:Nat} (h:Same w w' b) (off:Nat):w'.cell? ⟨b,off,none⟩ = w.cell? ⟨b,off,none⟩:=by
 have h:w'.heap[b]? = w.heap[b]?:=h
 simp [World.cell?,h]
theorem Same.frozen {w w':World} {b:Nat} (h:Same w w' b) (off:Nat):w'.frozen? ⟨b,off,none⟩ = w.frozen? ⟨b,off,none⟩:=by
 have h:w'.heap[b]? = w.heap[b]?:=h
 simp [World.frozen?,h]
theorem Stor.same {w w':World} {b off n:Nat} (h:Stor w b off n) (hs:Same w w' b):Stor w' b off n:=fun k hk=>by
 obtain ⟨h1,h2⟩:=h k hk
 exact ⟨by rw [hs.cell]; exact h1,by rw [hs.frozen]; exact h2⟩
theorem Zdz.same {w w':World} {b off:Nat} {cs:List Value} (h:Zdz w b off cs) (hs:Same w w' b):Zdz w' b off cs:=fun j v hj=>by
 rw [hs.cell]; exact h j v hj
theorem RowBox.same {w w':World} {n wd:Nat} {q:MB} (h:RowBox w n wd q) (hs:∀ ad,q.a = some ad -> Same w w' ad.block):RowBox w' n wd q:=by
 obtain ⟨e1,e2,e3,e4,e5⟩:=h
 exact ⟨e1,e2,e3,e4,fun ad e=>⟨(e5 ad e).1,(e5 ad e).2.same (hs ad e)⟩⟩
theorem ElemsR.mono {α:Type} {R R':(Nat -> Prop) -> α -> List Value -> Prop} {w w':World} {S S':Nat -> Prop} {wd:Nat} {l:List α} {ad:Addr} {p p':Nat -> Prop} (h:ElemsR R w S wd l ad p) (hS:∀ k,S k -> S' k) (hp:∀ i,p' i -> p i)
  (hR:∀ T x c,(∀ k,T k -> S k) -> R T x c -> R' T x c) (hs:Same w w' ad.block):ElemsR R' w' S' wd l ad p':=by
 obtain ⟨T,h1,h2,h3⟩:=h
 exact ⟨T,fun i b hb=>hS _ (h1 i b hb),h2,fun i x hi hx=>by
  obtain ⟨c,k1,k2⟩:=h3 i x (hp i hi) hx
  exact ⟨c,hR _ _ _ (h1 i) k1,k2.same hs⟩⟩
theorem DR.frame {w w':World}:∀ {τ:Ty} {S S':Nat -> Prop} {x:D τ} {cs:List Value},DR w τ S x cs -> (∀ k,S k -> S' k) -> (∀ k,S k -> Same w w' k) -> DR w' τ S' x cs:=by
 intro τ
 induction τ with
 | int k=>intro S S' x cs h _ _; exact h
 | bool=>intro S S' x cs h _ _; exact h
 | str=>intro S S' x cs h _ _; exact h
 | err=>intro S S' x cs h _ _; exact h
 | unit=>intro S S' x cs h _ _; exact h
 | q=>intro S S' x cs h _ _; exact h.elim
 | pr a b iha ihb =>
   intro S S' x cs h hS hs
   obtain ⟨S1,S2,c,d,e,h1,h2,h3,h4,h5⟩:=h
   exact ⟨S1,S2,c,d,e,fun k hk=>hS k (h1 k hk),fun k hk=>hS k (h2 k hk),h3,iha h4 (fun _ h=>h) (fun k hk=>hs k (h1 k hk)),ihb h5 (fun _ h=>h) (fun k hk=>hs k (h2 k hk))⟩
 | sl e ih =>
   intro S S' x cs h hS hs
   obtain ⟨a,cap,e1,e2,e3,e4⟩:=h
   refine ⟨a,cap,e1,e2,e3,fun ad ea=>?_⟩
   obtain ⟨k1,k2,k3,k4⟩:=e4 ad ea
   exact ⟨k1,hS _ k2,k3.same (hs _ k2),k4.mono (fun k hk=>⟨hS k hk.1,hk.2⟩) (fun _ h=>h) (fun T x c hT h=>ih h (fun _ h=>h) (fun k hk=>hs k (hT k hk).1)) (hs _ k2)⟩
theorem Zhp.frame {w w':World} {S:Nat -> Prop} {κ τ:Ty} {l:List (D κ × D τ)} {es:List MapEntry} {p:D κ -> Prop} (h:Zhp w S τ l es p) (hs:∀ j,S j -> Same w w' j):Zhp w' S τ l es p:=by
 obtain ⟨T,h1,h2,h3⟩:=h
 exact ⟨T,h1,h2,fun i x e hp hx he=>(h3 i x e hp hx he).frame (fun _ h=>h) (fun j hj=>hs j (h1 i j hj))⟩
theorem MapOk.same {w w':World} {κ τ:Ty} {b:Nat} {es:Array MapEntry} {clock:Nat} (h:MapOk w κ τ b es clock) (hs:Same w w' b):MapOk w' κ τ b es clock :=
 ⟨by have hs:w'.heap[b]? = w.heap[b]?:=hs; rw [hs]; exact h.heap,h.born,h.nodup,h.keys⟩
theorem IterOk.same {w w':World} {κ τ:Ty} {b r:Nat} {es:Array MapEntry} {clock since:Nat} {seen:Array Nat} {c0:Nat} (h:IterOk w κ τ b r es clock since seen c0) (hs:Same w w' b) (hr:Same w w' r):IterOk w' κ τ b r es clock since seen c0 :=
 ⟨h.map.same hs,by have hr:w'.heap[r]? = w.heap[r]?:=hr; rw [hr]; exact h.heap,h.old,h.sc,h.sk⟩
theorem Nest.frame {w w':World} {q:MB} {S:Nat -> Prop} {x:Bx} (h:Nest w q S x) (hs:∀ k,S k -> Same w w' k) (ho:∀ ad,q.a = some ad -> Same w w' ad.block):Nest w' q S x:=by
 cases x with
 | dp τ l=>exact fun ad e=>(h ad e).mono (fun _ h=>h) (fun _ h=>h) (fun T x c hT h=>h.frame (fun _ h=>h) (fun k hk=>hs k (hT k hk))) (ho ad e)
 | dpx τ l k x off v =>
   intro ad e
   obtain ⟨T,h1,h2,h3,c,h4,h5⟩:=h ad e
   refine ⟨T,h1,h2,fun i y hi hy=>?_,c,h4.frame (fun _ h=>h) (fun k hk=>hs k (h1 _ k hk)),fun j v hj hv=>?_⟩
   · obtain ⟨c,k1,k2⟩:=h3 i y hi hy
     exact ⟨c,k1.frame (fun _ h=>h) (fun k hk=>hs k (h1 _ k hk)),k2.same (ho ad e)⟩
   · rw [(ho ad e).cell]; exact h5 j v hj hv
 | dpm τ l r=>exact fun ad e=>(h ad e).mono (fun _ h=>h) (fun _ h=>h) (fun T x c hT h=>h.frame (fun _ h=>h) (fun k hk=>hs k (hT k hk))) (ho ad e)
 | mp κ τ l =>
   intro ad e
   obtain ⟨es,clock,h1,h2,h3⟩:=h ad e
   exact ⟨es,clock,h1.same (ho ad e),h2,h3.frame hs⟩
 | mpx κ τ l k =>
   intro ad e
   obtain ⟨es,clock,h1,h2,h3⟩:=h ad e
   exact ⟨es,clock,h1.same (ho ad e),h2,h3.frame hs⟩
 | mpi κ τ l =>
   intro ad e
   obtain ⟨h0,es,clock,since,seen,c0,h1,h2,h3⟩:=h ad e
   exact ⟨h0,es,clock,since,seen,c0,h1.same (ho ad e) (hs _ h0),h2,h3.frame (fun j hj=>hs j hj.1)⟩
 | mpe κ τ l k y =>
   intro ad e
   obtain ⟨h0,es,clock,since,seen,e0,h1,h2,h3,h4,S1,S2,h5,h6,h7,h8,h9⟩:=h ad e
   exact ⟨h0,es,clock,since,seen,e0,h1.same (ho ad e) (hs _ h0),h2,h3,h4,S1,S2,h5,h6,h7,h8.frame (fun j hj=>hs j (h5 j hj).1),h9.frame (fun _ h=>h) (fun j hj=>hs j (h6 j hj).1)⟩
 | _=>trivial
def OwnB (μ:Mu) (m:Hp) (c:Nat):Prop:=∃ b x q ad,m.at b = some x /\ x.isFz = false /\ μ b = some (some q) /\ q.a = some ad /\ ad.block = c
theorem DeepOk.step {w0:World} {Ob B F F':Nat -> Prop} {μ μ':Mu} {m m':Hp} {w w':World} {ν:Nat -> Nat -> Prop} (h:DeepOk w0 Ob B F μ m w ν) (ρ:Nat -> Option Nat)
  (hn:∀ b' x' q',m'.at b' = some x' -> μ' b' = some (some q') -> (ρ b' = none /\ Nest w' q' (fun _=>False) x') ∨ ∃ b x q,ρ b' = some b /\ m.at b = some x /\ μ b = some (some q) /\ (Nest w q (ν b) x -> (∀ c,ν b c -> Same w w' c) -> Nest w' q' (ν b) x'))
  (hi:∀ b1 b2 b x1 x2,m'.at b1 = some x1 -> m'.at b2 = some x2 -> ρ b1 = some b -> ρ b2 = some b -> b1 = b2)
  (hs:∀ b x c,m.at b = some x -> ν b c -> Same w w' c)
  (hF:∀ c,F' c -> F c ∨ w.heap.size <= c ∨ OwnB μ m c)
  (hsz:w.heap.size <= w'.heap.size)
  (ho:∀ c,OwnB μ' m' c -> w.heap.size <= c ∨ OwnB μ m c):∃ ν',DeepOk w0 Ob B F' μ' m' w' ν':=by
 refine ⟨fun b' c=>∃ b x,ρ b' = some b /\ m.at b = some x /\ ν b c,⟨fun b' x' q' e1 e2=>?_,fun b' x' c e1 ⟨b,x,k1,k2,k3⟩=>?_,fun b' x' c b2 x2 q ad e1 ⟨b,x,k1,k2,k3⟩ e2 e3 e4 e5 e6=>?_,fun b1 b2 x1 x2 c e1 e2 ⟨b,x,k1,k2,k3⟩ ⟨b3,x3,j1,j2,j3⟩=>?_⟩⟩
 · rcases hn b' x' q' e1 e2 with ⟨k1,k2⟩ | ⟨b,x,q,k1,k2,k3,k4⟩
   · have:(fun c=>∃ b x,ρ b' = some b /\ m.at b = some x /\ ν b c) = (fun _=>False):=by
       funext c; rw [k1]; simp
     rw [this]; exact k2
   · have:(fun c=>∃ b x,ρ b' = some b /\ m.at b = some x /\ ν b c) = ν b:=by
       funext c; rw [k1]; simp [k2]
     rw [this]; exact k4 (h.nest b x q k2 k3) (fun c hc=>hs b x c k2 hc)
 · obtain ⟨h1,h2,h3,h4⟩:=h.own b x c k2 k3
   refine ⟨fun hf=>?_,h2,by omega,h4⟩
   rcases hF c hf with hf | hf | ⟨b2,x2,q,ad,e2,e3,e4,e5,e6⟩
   · exact h1 hf
   · omega
   · exact h.apart b x c b2 x2 q ad k2 k3 e2 e3 e4 e5 e6
 · obtain ⟨h1,h2,h3,h4⟩:=h.own b x c k2 k3
   rcases ho c ⟨b2,x2,q,ad,e2,e3,e4,e5,e6⟩ with hc | ⟨b4,x4,q4,ad4,f2,f3,f4,f5,f6⟩
   · omega
   · exact h.apart b x c b4 x4 q4 ad4 k2 k3 f2 f3 f4 f5 f6
 · have:=h.inj b b3 x x3 c k2 j2 k3 j3
   subst this
   exact hi b1 b2 b x1 x2 e1 e2 k1 j1
theorem DR.toRC {F:Nat -> Prop} {w:World}:∀ {τ:Ty} {S:Nat -> Prop} {x:D τ} {cs:List Value},DR w τ S x cs -> (∀ k,S k -> F k) -> RC F w τ x cs:=by
 intro τ
 induction τ with
 | int k=>intro S x cs h _; exact h
 | bool=>intro S x cs h _; exact h
 | str=>intro S x cs h _; exact h
 | err=>intro S x cs h _; exact h
 | unit=>intro S x cs h _; exact h
 | q=>intro S x cs h _; exact h.elim
 | pr a b iha ihb =>
   intro S x cs h hS
   obtain ⟨S1,S2,c,d,e,h1,h2,h3,h4,h5⟩:=h
   simp only [RC]
   exact ⟨c,d,e,iha h4 (fun k hk=>hS k (h1 k hk)),ihb h5 (fun k hk=>hS k (h2 k hk))⟩
 | sl e ih =>
   intro S x cs h hS
   obtain ⟨a,cap,e1,e2,e3,e4⟩:=h
   simp only [RC]
   refine ⟨a,cap,e1,e2,e3,fun ad ea _=>?_⟩
   obtain ⟨k1,k2,k3,T,j1,j2,j3⟩:=e4 ad ea
   refine ⟨k1,hS _ k2,fun i y hy=>?_⟩
   obtain ⟨c,g1,g2⟩:=j3 i y trivial hy
   exact ⟨c,ih g1 (fun k hk=>hS k (j1 i k hk).1),g2⟩
theorem Elems.rows {F:Nat -> Prop} {w:World} {S:Nat -> Prop} {τ:Ty} {l:List (D τ)} {ad:Addr} (h:Elems w S τ l ad (fun _=>True)) (hS:∀ k,S k -> F k):Zgu F w τ l ad:=fun i x hx=>by
 obtain ⟨T,j1,j2,j3⟩:=h
 obtain ⟨c,g1,g2⟩:=j3 i x trivial hx
 exact ⟨c,g1.toRC (fun k hk=>hS k (j1 i k hk)),g2⟩
theorem Zd2.mono {B F F':Nat -> Prop} {μ μ':Mu} {w w':World} (h:Tr B F F' μ μ' w w') {x:Bx} {q:MB} (hb:Zd2 F B w μ x q)
  (hs:∀ ad,x.isFz = false -> q.a = some ad -> Same w w' ad.block):Zd2 F' B w' μ' x q:=by
 cases x with
 | cs cs =>
   obtain ⟨ad,vs,e,h1,h2,h3,h4⟩:=hb
   have hs:=hs ad rfl e
   exact ⟨ad,vs,e,h1,h.RL h2,h3.same hs,h4.same hs⟩
 | rows τ l =>
   obtain ⟨e1,e2,e3,e4,e5⟩:=hb
   refine ⟨e1,e2,e3,e4,fun ad e=>?_⟩
   obtain ⟨k1,k2,k3⟩:=e5 ad e
   have hs:=hs ad rfl e
   exact ⟨k1,k2.mono h.sub h.keep (fun off v hv=>by rw [hs.cell off]; exact hv),k3.same hs⟩
 | fz τ l =>
   obtain ⟨e1,e2,e3,e4,e5⟩:=hb
   refine ⟨e1,e2,e3,e4,fun ad e=>?_⟩
   obtain ⟨k1,k2,k3⟩:=e5 ad e
   exact ⟨k1,h.sub _ k2,k3.mono h.sub h.keep (fun off v hv=>h.keep _ _ _ k2 hv)⟩
 | dp τ l=>exact RowBox.same hb (fun ad e=>hs ad rfl e)
 | dpx τ l k x off v =>
   obtain ⟨h0,h1,h2,h3,h4⟩:=hb
   refine ⟨h0.same (fun ad e=>hs ad rfl e),h1,h2,h3,fun ad e=>?_⟩
   obtain ⟨cv,k1,k2⟩:=h4 ad e
   exact ⟨cv,h.R k1,by rw [(hs ad rfl e).cell]; exact k2⟩
 | dpm τ l r=>exact ⟨hb.1.same (fun ad e=>hs ad rfl e),hb.2⟩
 | mp κ τ l=>exact hb
 | mpx κ τ l k=>exact hb
 | mpi κ τ l=>exact hb
 | mpe κ τ l k y=>exact hb
theorem upd_le {μ:Mu} {b:Nat} {o:Option MB} (h:μ b = none ∨ o = none):μ.le (upd μ b o):=fun k p e=>by
 by_cases hk:k = b
 · subst hk
   rcases h with h | h
   · rw [h] at e; cases e
   · subst h; exact ⟨none,by simp [upd],.inl rfl⟩
 · exact ⟨p,by simp [upd,hk,e],.inr rfl⟩
section
variable {G:List (Nat × List V)} {w0:World} {Ob A B F:Nat -> Prop} {μ:Mu} {m:Hp} {w:World}
theorem Mem.gex (h:Mem G w0 Ob A B F μ m w):GEx G w:=fun g cs hg=>by
 have h1:=h.glob.1 g cs hg
 simp only [R] at h1
 obtain ⟨ad,vs,e1,e2,e3,e4,e5⟩:=h1
 cases e1
 obtain ⟨us,e,p,h2,h3⟩:=h.glob.2 g cs hg
 exact ⟨us,e,p,by rw [h.ext.block g (h.bz g e3).1 (h.bz g e3).2]; exact h2,h3⟩
theorem Mem.block_lt (h:Mem G w0 Ob A B F μ m w) {b:Nat} (hb:B b):b < w.heap.size:=Nat.lt_of_lt_of_le (h.bz b hb).1 h.ext.size
theorem Zfk (w:World) (o:Obj) {b:Nat} (hb:b < w.heap.size):Same w (w.alloc o) b:=by
 show (w.alloc o).heap[b]? = w.heap[b]?
 simp only [World.alloc]; rw [Array.getElem?_push_lt hb,Array.getElem?_eq_getElem hb]
theorem Ext.alloc {S:Prop} {Ob:Nat -> Prop} {w0 w:World} (h:Ext S Ob w0 w) (o:Obj):Ext S Ob w0 (w.alloc o) :=
 ⟨h.os,h.tape,h.output,by have:=h.size; simp; omega,fun k hk hio=>by
  rw [← h.block k hk hio]; simp only [World.alloc]; rw [Array.getElem?_push_lt (Nat.lt_of_lt_of_le hk h.size),Array.getElem?_eq_getElem (Nat.lt_of_lt_of_le hk h.size)],h.drawn⟩
theorem Ext.drew {S:Prop} {Ob:Nat -> Prop} {w0 w:World} (h:Ext S Ob w0 w):Ext S Ob w0 w.drew:=⟨h.os,h.tape,h.output,h.size,h.block,fun s=>Nat.le_succ_of_le (h.drawn s)⟩
theorem Tr.alloc (h:Mem G w0 Ob A B F μ m w) (o:Obj) {base:Nat} (hb:μ base = none) (q:MB):Tr B F F μ (upd μ base (some q)) w (w.alloc o) :=
 ⟨fun _ x=>x,fun b off v hF e=>by rw [(Zfk w o (h.fz b hF).1).cell off]; exact e,fun b off v hB e=>by rw [(Zfk w o (h.block_lt hB)).cell off]; exact e,upd_le (.inl hb)⟩
theorem Mem.alloc (h:Mem G w0 Ob A B F μ m w) {base:Nat} (hb:μ base = none) (x:Bx) (o:Obj) (q:MB)
  (hq:∀ ad,q.a = some ad -> ad.block = w.heap.size) (hx:x.isFz = false) (hbox:Zd2 F B (w.alloc o) (upd μ base (some q)) x q) (hpl:x.plain = true:=by rfl) :
  Mem G w0 Ob A B F (upd μ base (some q)) ((base,some x) :: m) (w.alloc o):=by
 have tr:=Tr.alloc h o hb q
 have hm:∀ b y,m.at b = some y -> b ≠ base:=fun b y hy e=>by
  obtain ⟨q',e',_⟩:=h.box b y hy; rw [e,hb] at e'; cases e'
 refine ⟨h.ext.alloc o,fun b y hy=>?_,fun b y p ad hy hz hp hpa=>?_,fun b b' y y' p p' ad ad' hy hy' hz hz' hp hp' hpa hpa' he=>?_,fun b hF=>?_,h.bz,⟨fun g cs hg=>tr.R (h.glob.1 g cs hg),h.glob.2⟩,?_⟩
 · rw [Hp.at_cons] at hy
   split at hy
   · rename_i e; subst e; cases hy; exact ⟨q,by simp [upd],hbox⟩
   · obtain ⟨p,e,hp⟩:=h.box b y hy
     refine ⟨p,by simp [upd,hm b y hy,e],hp.mono tr (fun ad hz ha=>Zfk w o (h.own b y p ad hy hz e ha).2.2.1)⟩
 · rw [Hp.at_cons] at hy
   split at hy
   · rename_i e; subst e; cases hy
     simp [upd] at hp; subst hp
     have:=hq ad hpa
     refine ⟨fun hF=>?_,fun hB=>?_,by simp; omega,.inl (by have:=h.ext.size; omega)⟩
     · have:=(h.fz _ hF).1; omega
     · have:=h.block_lt hB; omega
   · simp [upd,hm b y hy] at hp
     obtain ⟨k1,k2,k3,k4⟩:=h.own b y p ad hy hz hp hpa
     exact ⟨k1,k2,by simp; omega,k4⟩
 · rw [Hp.at_cons] at hy hy'
   split at hy <;> split at hy'
   · rename_i e e'; exact e.symm.trans e'
   · rename_i e e'; subst e; cases hy
     simp [upd] at hp; subst hp
     simp [upd,hm b' y' hy'] at hp'
     have:=hq ad hpa
     have:=(h.own b' y' p' ad' hy' hz' hp' hpa').2.2.1
     omega
   · rename_i e e'; subst e'; cases hy'
     simp [upd] at hp'; subst hp'
     simp [upd,hm b y hy] at hp
     have:=hq ad' hpa'
     have:=(h.own b y p ad hy hz hp hpa).2.2.1
     omega
   · simp [upd,hm b y hy] at hp
     simp [upd,hm b' y' hy'] at hp'
     exact h.inj b b' y y' p p' ad ad' hy hy' hz hz' hp hp' hpa hpa' he
 · have:=h.fz b hF
   exact ⟨by simp; omega,this.2⟩
 · obtain ⟨ν,hd⟩:=h.deep
   refine hd.step (fun b=>if b = base then none else some b) (fun b' x' q' e1 e2=>?_) (fun b1 b2 b _ _ _ _ e1 e2=>?_) (fun b x c e1 e2=>Zfk w o (hd.own b x c e1 e2).2.2.1) (fun c hc=>.inl hc) (by simp) (fun c hc=>?_)
   · rw [Hp.at_cons] at e1
     split at e1
     · rename_i e; subst e; cases e1; exact .inl ⟨by simp,Ze4 hpl _ _ _⟩
     · have hne:=hm b' x' e1
       simp [upd,hne] at e2
       refine .inr ⟨b',x',q',by simp [hne],e1,e2,fun k1 k2=>k1.frame k2 (fun ad e=>Zfk w o ?_)⟩
       obtain ⟨q2,j1,j2⟩:=h.box b' x' e1
       rw [e2] at j1; cases j1
       by_cases hz:x'.isFz = true
       · cases x' <;> simp [Bx.isFz] at hz
         obtain ⟨_,_,_,_,j3⟩:=j2
         exact (h.fz _ (j3 ad e).2.1).1
       · exact (h.own b' x' q' ad e1 (by simpa using hz) e2 e).2.2.1
   · split at e1 <;> split at e2 <;> simp_all
   · obtain ⟨b',x',q',ad,e1,e2,e3,e4,e5⟩:=hc
     rw [Hp.at_cons] at e1
     split at e1
     · rename_i e; subst e; cases e1
       simp [upd] at e3; subst e3
       have:=hq ad e4
       exact .inl (by omega)
     · have hne:=hm b' x' e1
       simp [upd,hne] at e3
       exact .inr ⟨b',x',q',ad,e1,e2,e3,e4,e5⟩
theorem Mem.drew (h:Mem G w0 Ob A B F μ m w):Mem G w0 Ob A B F μ m w.drew:=by
 have tr:Tr B F F μ μ w w.drew:=⟨fun _ x=>x,fun _ _ _ _ e=>e,fun _ _ _ _ e=>e,μ.le_refl⟩
 exact ⟨h.ext.drew,fun b x hx=>by
  obtain ⟨q,e,hq⟩:=h.box b x hx
  exact ⟨q,e,hq.mono tr (fun _ _ _=>rfl)⟩,h.own,h.inj,h.fz,h.bz,⟨fun g cs hg=>tr.R (h.glob.1 g cs hg),h.glob.2⟩,by
  obtain ⟨ν,hd⟩:=h.deep
  exact ⟨ν,⟨fun b x q e1 e2=>(hd.nest b x q e1 e2).frame (fun _ _=>rfl) (fun _ _=>rfl),hd.own,hd.apart,hd.inj⟩⟩⟩
theorem Mem.kill (h:Mem G w0 Ob A B F μ m w) (b:Nat):Mem G w0 Ob A B F μ ((b,none) :: m) w:=by
 have hm:∀ c x,Hp.at ((b,none) :: m) c = some x -> m.at c = some x:=fun c x hx=>by
  rw [Hp.at_cons] at hx; split at hx
  · cases hx
  · exact hx
 exact ⟨h.ext,fun c x hx=>h.box c x (hm c x hx),fun c x q ad hx=>h.own c x q ad (hm c x hx),fun c c' x x' q q' ad ad' hx hx'=>h.inj c c' x x' q q' ad ad' (hm c x hx) (hm c' x' hx'),h.fz,h.bz,h.glob,by
  obtain ⟨ν,hd⟩:=h.deep
  exact ⟨ν,⟨fun c x q e1=>hd.nest c x q (hm c x e1),fun c x k e1=>hd.own c x k (hm c x e1),fun c x k c' x' q ad e1 e2 e3=>hd.apart c x k c' x' q ad (hm c x e1) e2 (hm c' x' e3),fun c c' x x' k e1 e2=>hd.inj c c' x x' k (hm c x e1) (hm c' x' e2)⟩⟩⟩
theorem Mem.forget (h:Mem G w0 Ob A B F μ m w) (b:Nat) (hb:m.at b = none) (hu:(μ b).isSome = true):Mem G w0 Ob A B F (upd μ b none) m w /\ Tr B F F μ (upd μ b none) w w:=by
 have tr:Tr B F F μ (upd μ b none) w w:=⟨fun _ x=>x,fun _ _ _ _ e=>e,fun _ _ _ _ e=>e,upd_le (.inr rfl)⟩
 have hm:∀ c x,m.at c = some x -> c ≠ b:=fun c x hx e=>by rw [e,hb] at hx; cases hx
 refine ⟨⟨h.ext,fun c x hx=>?_,fun c x q ad hx hz hq=>?_,fun c c' x x' q q' ad ad' hx hx' hz hz' hq hq'=>?_,h.fz,h.bz,⟨fun g cs hg=>tr.R (h.glob.1 g cs hg),h.glob.2⟩,?_⟩,tr⟩
 · obtain ⟨q,e,hq⟩:=h.box c x hx
   exact ⟨q,by simp [upd,hm c x hx,e],hq.mono tr (fun _ _ _=>rfl)⟩
 · simp [upd,hm c x hx] at hq; exact h.own c x q ad hx hz hq
 · simp [upd,hm c x hx] at hq; simp [upd,hm c' x' hx'] at hq'; exact h.inj c c' x x' q q' ad ad' hx hx' hz hz' hq hq'
 · obtain ⟨ν,hd⟩:=h.deep
   exact ⟨ν,⟨fun c x q e1 e2=>by simp [upd,hm c x e1] at e2; exact hd.nest c x q e1 e2,hd.own,fun c x k c' x' q ad e1 e2 e3 e4 e5=>by simp [upd,hm c' x' e3] at e5; exact hd.apart c x k c' x' q ad e1 e2 e3 e4 e5,hd.inj⟩⟩
end
end Go.E
namespace Go.E
open Go Go.RowKit
section
variable {G:List (Nat × List V)} {w0:World} {Ob A B F F':Nat -> Prop} {μ μ':Mu} {m:Hp} {w w':World}
theorem Mem.deepGen (h:Mem G w0 Ob A B F μ m w) {m':Hp} (hsz:w.heap.size <= w'.heap.size) (b0:Nat) (x0:Bx) (q0:MB) (hx0:m'.at b0 = some x0) (h0:μ' b0 = some (some q0))
  (hm:∀ c x,c ≠ b0 -> m'.at c = some x -> m.at c = some x /\ μ' c = μ c)
  (hs:∀ c x q ad,c ≠ b0 -> m'.at c = some x -> x.isFz = false -> μ c = some (some q) -> q.a = some ad -> Same w w' ad.block)
  (hW:∀ c,c < w.heap.size -> Same w w' c ∨ OwnB μ m c) (hF:∀ c,F' c -> F c ∨ w.heap.size <= c ∨ OwnB μ m c)
  (hO:∀ ad,x0.isFz = false -> q0.a = some ad -> w.heap.size <= ad.block ∨ OwnB μ m ad.block) (hpl:x0.plain = true:=by rfl):∃ ν,DeepOk w0 Ob B F' μ' m' w' ν:=by
 obtain ⟨ν,hd⟩:=h.deep
 have same:∀ b x c,m.at b = some x -> ν b c -> Same w w' c:=fun b x c e1 e2=>by
  rcases hW c (hd.own b x c e1 e2).2.2.1 with hs | ⟨b2,x2,q,ad,f1,f2,f3,f4,f5⟩
  · exact hs
  · exact absurd f5 (hd.apart b x c b2 x2 q ad e1 e2 f1 f2 f3 f4)
 refine hd.step (fun b=>if b = b0 then none else some b) (fun b' x' q' e1 e2=>?_) (fun b1 b2 b _ _ _ _ e1 e2=>?_) same hF hsz (fun c hc=>?_)
 · by_cases hne:b' = b0
   · subst hne
     rw [hx0] at e1; cases e1
     exact .inl ⟨by simp,Ze4 hpl _ _ _⟩
   · obtain ⟨k1,k2⟩:=hm b' x' hne e1
     rw [k2] at e2
     refine .inr ⟨b',x',q',by simp [hne],k1,e2,fun j1 j2=>?_⟩
     by_cases hz:x'.isFz = true
     · exact Ze4 (by cases x' <;> first | rfl | cases hz) _ _ _
     · exact j1.frame j2 (fun ad e=>hs b' x' q' ad hne e1 (by simpa using hz) e2 e)
 · split at e1 <;> split at e2 <;> simp_all
 · obtain ⟨b',x',q',ad,e1,e2,e3,e4,e5⟩:=hc
   by_cases hne:b' = b0
   · subst hne
     rw [hx0] at e1; cases e1
     rw [h0] at e3; cases e3
     rw [← e5]; exact hO ad e2 e4
   · obtain ⟨k1,k2⟩:=hm b' x' hne e1
     rw [k2] at e3
     exact .inr ⟨b',x',q',ad,k1,e2,e3,e4,e5⟩
theorem Zh1 {b0:Nat} {o:Option Bx} {c:Nat} {x:Bx} (hne:c ≠ b0) (h:Hp.at ((b0,o) :: m) c = some x):m.at c = some x:=by
 rw [Hp.at_cons,if_neg (Ne.symm hne)] at h; exact h
theorem Mem.gen (h:Mem G w0 Ob A B F μ m w) (tr:Tr B F F' μ μ' w w') (hext:Ext (G = []) Ob w0 w') (hsz:w.heap.size <= w'.heap.size) (b0:Nat) (x0:Bx) (q0:MB)
  (h0:μ' b0 = some (some q0)) (ho:∀ b,b ≠ b0 -> (m.at b).isSome = true -> μ' b = μ b) (hbox:Zd2 F' B w' μ' x0 q0)
  (hs:∀ b x q ad,b ≠ b0 -> m.at b = some x -> x.isFz = false -> μ b = some (some q) -> q.a = some ad -> Same w w' ad.block /\ ¬ F' ad.block /\ ∀ ad0,x0.isFz = false -> q0.a = some ad0 -> ad0.block ≠ ad.block)
  (hown:x0.isFz = false -> ∀ ad,q0.a = some ad -> ¬ F' ad.block /\ ¬ B ad.block /\ ad.block < w'.heap.size /\ (w0.heap.size <= ad.block ∨ Ob ad.block))
  (hfz:∀ b,F' b -> b < w'.heap.size /\ (A b ∨ w0.heap.size <= b ∨ Ob b)) (hdp:∃ ν,DeepOk w0 Ob B F' μ' ((b0,some x0) :: m) w' ν) :
  Mem G w0 Ob A B F' μ' ((b0,some x0) :: m) w':=by
 refine ⟨hext,fun b y hy=>?_,fun b y p ad hy hz hp hpa=>?_,fun b b' y y' p p' ad ad' hy hy' hz hz' hp hp' hpa hpa' he=>?_,hfz,h.bz,⟨fun g cs hg=>tr.R (h.glob.1 g cs hg),h.glob.2⟩,hdp⟩
 · rw [Hp.at_cons] at hy
   split at hy
   · rename_i e; subst e; cases hy; exact ⟨q0,h0,hbox⟩
   · rename_i e
     obtain ⟨p,k,hp⟩:=h.box b y hy
     exact ⟨p,by rw [ho b (Ne.symm e) (by rw [hy]; rfl)]; exact k,hp.mono tr (fun ad hz ha=>(hs b y p ad (Ne.symm e) hy hz k ha).1)⟩
 · rw [Hp.at_cons] at hy
   split at hy
   · rename_i e; subst e; cases hy
     rw [h0] at hp; cases hp
     exact hown hz ad hpa
   · rename_i e
     rw [ho b (Ne.symm e) (by rw [hy]; rfl)] at hp
     obtain ⟨k1,k2,k3,k4⟩:=h.own b y p ad hy hz hp hpa
     exact ⟨(hs b y p ad (Ne.symm e) hy hz hp hpa).2.1,k2,by omega,k4⟩
 · rw [Hp.at_cons] at hy hy'
   split at hy <;> split at hy'
   · rename_i e e'; exact e.symm.trans e'
   · rename_i e e'; subst e; cases hy
     rw [h0] at hp; cases hp
     rw [ho b' (Ne.symm e') (by rw [hy']; rfl)] at hp'
     exact absurd he ((hs b' y' p' ad' (Ne.symm e') hy' hz' hp' hpa').2.2 ad hz hpa)
   · rename_i e e'; subst e'; cases hy'
     rw [h0] at hp'; cases hp'
     rw [ho b (Ne.symm e) (by rw [hy]; rfl)] at hp
     exact absurd he.symm ((hs b y p ad (Ne.symm e) hy hz hp hpa).2.2 ad' hz' hpa')
   · rename_i e e'
     rw [ho b (Ne.symm e) (by rw [hy]; rfl)] at hp
     rw [ho b' (Ne.symm e') (by rw [hy']; rfl)] at hp'
     exact h.inj b b' y y' p p' ad ad' hy hy' hz hz' hp hp' hpa hpa' he
theorem Zhj (w:World) (g o:Nat) (vs:List Value) {b:Nat} (h:b ≠ g) (off:Nat):(w.setCells g o vs).cell? ⟨b,off,none⟩ = w.cell? ⟨b,off,none⟩ :=
 World.cell?_setCells_out g vs o w _ (fun e=>absurd e h)
theorem Zee (g:Nat):∀ (vs:List Value) (o:Nat) (w:World),(w.setCells g o vs).heap.size = w.heap.size
 | [],_,_=>rfl
 | v :: r,o,w=>by rw [World.setCells,Zee g r]; simp
theorem setCells_eqs (g:Nat):∀ (vs:List Value) (o:Nat) (w:World),(w.setCells g o vs).os = w.os /\ (w.setCells g o vs).tape = w.tape /\ (w.setCells g o vs).output = w.output /\ (w.setCells g o vs).drawn = w.drawn
 | [],_,_=>⟨rfl,rfl,rfl,rfl⟩
 | v :: r,o,w=>by rw [World.setCells]; exact setCells_eqs g r _ _
theorem Zii (g:Nat) {k:Nat} (hk:k ≠ g):∀ (vs:List Value) (o:Nat) (w:World),(w.setCells g o vs).heap[k]? = w.heap[k]?
 | [],_,_=>rfl
 | v :: r,o,w=>by
   rw [World.setCells,Zii g hk r]
   exact Below.heap_setCell w ⟨g,o,none⟩ v k hk
theorem Zej (w:World) (g o:Nat) (vs:List Value) {b:Nat} (h:b ≠ g):Same w (w.setCells g o vs) b:=Zii g h vs o w
theorem Ext.setCells {S:Prop} (h:Ext S Ob w0 w) {g:Nat} (hg:w0.heap.size <= g ∨ Ob g) (o:Nat) (vs:List Value):Ext S Ob w0 (w.setCells g o vs):=by
 obtain ⟨e1,e2,e3,e4⟩:=setCells_eqs g vs o w
 refine ⟨e1.trans h.os,e2.trans h.tape,e3.trans h.output,by rw [Zee]; exact h.size,fun k hk hio=>?_,fun s=>by rw [e4]; exact h.drawn s⟩
 have hne:k ≠ g:=fun e=>by subst e; rcases hg with hg | hg
                           · omega
                           · exact hio hg
 rw [Zii g hne]; exact h.block k hk hio
theorem Tr.setCells (h:Mem G w0 Ob A B F μ m w) {g:Nat} (hF:¬ F g) (hB:¬ B g) (o:Nat) (vs:List Value):Tr B F F μ μ w (w.setCells g o vs) :=
 ⟨fun _ x=>x,fun b off v hb e=>by rw [Zhj w g o vs (fun e=>hF (e ▸ hb))]; exact e,
  fun b off v hb e=>by rw [Zhj w g o vs (fun e=>hB (e ▸ hb))]; exact e,μ.le_refl⟩
theorem Mem.write (h:Mem G w0 Ob A B F μ m w) {b:Nat} {x:Bx} {q:MB} {ad:Addr} (hb:m.at b = some x) (hz:x.isFz = false) (hq:μ b = some (some q)) (ha:q.a = some ad)
  (o:Nat) (vs:List Value) (x':Bx) (hz':x'.isFz = false) (hbox:Zd2 F B (w.setCells ad.block o vs) μ x' q) (hpl:x'.plain = true:=by rfl) :
  Mem G w0 Ob A B F μ ((b,some x') :: m) (w.setCells ad.block o vs) /\ Tr B F F μ μ w (w.setCells ad.block o vs):=by
 obtain ⟨k1,k2,k3,k4⟩:=h.own b x q ad hb hz hq ha
 have tr:=Tr.setCells h k1 k2 o vs
 refine ⟨h.gen tr (h.ext.setCells k4 o vs) (by rw [Zee]; omega) b x' q hq (fun _ _ _=>rfl) hbox (fun c y p ad' hc hy hyz hp hpa=>?_) (fun _ ad' e=>?_) (fun c hF=>?_) ?_,tr⟩
 · have hne:ad'.block ≠ ad.block:=fun e=>hc (h.inj c b y x p q ad' ad hy hb hyz hz hp hq hpa ha e)
   refine ⟨Zej w _ o vs hne,(h.own c y p ad' hy hyz hp hpa).1,fun ad0 _ e0=>?_⟩
   rw [ha] at e0; cases e0; exact hne.symm
 · rw [ha] at e; cases e; exact ⟨k1,k2,by rw [Zee]; exact k3,k4⟩
 · have:=h.fz c hF; rw [Zee]; exact this
 · refine h.deepGen (by rw [Zee]; omega) b x' q (by rw [Hp.at_cons,if_pos rfl]) hq (fun c y hc hy=>⟨Zh1 hc hy,rfl⟩) (fun c y p ad' hc hy hyz hp hpa=>?_) (fun c _=>?_) (fun c hF=>.inl hF)
     (fun ad' _ e=>by rw [ha] at e; cases e; exact .inr ⟨b,x,q,ad,hb,hz,hq,ha,rfl⟩) hpl
   · exact Zej w _ o vs (fun e=>hc (h.inj c b y x p q ad' ad (Zh1 hc hy) hb hyz hz hp hq hpa ha e))
   · by_cases e:c = ad.block
     · exact .inr ⟨b,x,q,ad,hb,hz,hq,ha,e.symm⟩
     · exact .inl (Zej w _ o vs e)
theorem le_F {F:Nat -> Prop} {P:Nat -> Prop} (b:Nat) (h:F b):F b ∨ P b:=.inl h
theorem Mem.freeze (h:Mem G w0 Ob A B F μ m w) {b:Nat} {τ:Ty} {l:List (D τ)} (hb:m.at b = some (.rows τ l)) :
  ∃ F',Mem G w0 Ob A B F' μ ((b,some (.fz τ l)) :: m) w /\ Tr B F F' μ μ w w:=by
 obtain ⟨q,hq,hbox⟩:=h.box b _ hb
 refine ⟨fun c=>F c ∨ ∃ ad,q.a = some ad /\ c = ad.block,?_⟩
 have tr:Tr B F (fun c=>F c ∨ ∃ ad,q.a = some ad /\ c = ad.block) μ μ w w:=⟨fun _ x=>.inl x,fun _ _ _ _ e=>e,fun _ _ _ _ e=>e,μ.le_refl⟩
 refine ⟨h.gen tr h.ext (Nat.le_refl _) b _ q hq (fun _ _ _=>rfl) ?_ (fun c y p ad' hc hy hyz hp hpa=>?_) (fun e=>by cases e) (fun c hF=>?_) (h.deepGen (Nat.le_refl _) b _ q (by rw [Hp.at_cons,if_pos rfl]) hq (fun c y hc hy=>⟨Zh1 hc hy,rfl⟩) (fun _ _ _ _ _ _ _ _ _=>rfl) (fun _ _=>.inl rfl) (fun c hF=>by
   rcases hF with hF | ⟨ad,e,he⟩
   · exact .inl hF
   · exact .inr (.inr ⟨b,_,q,ad,hb,rfl,hq,e,he.symm⟩)) (fun ad e=>by cases e)),tr⟩
 · obtain ⟨e1,e2,e3,e4,e5⟩:=hbox
   refine ⟨e1,e2,e3,e4,fun ad e=>?_⟩
   obtain ⟨k1,k2,k3⟩:=e5 ad e
   exact ⟨k1,.inr ⟨ad,e,rfl⟩,k2.mono (fun _ x=>.inl x) (fun _ _ _ _ e=>e) (fun _ _ e=>e)⟩
 · refine ⟨rfl,fun hF=>?_,fun _ e=>by cases e⟩
   rcases hF with hF | ⟨ad,e,he⟩
   · exact (h.own c y p ad' hy hyz hp hpa).1 hF
   · exact hc (h.inj c b y _ p q ad' ad hy hb hyz rfl hp hq hpa e he)
 · rcases hF with hF | ⟨ad,e,he⟩
   · exact h.fz c hF
   · subst he
     obtain ⟨_,_,k3,k4⟩:=h.own b _ q ad hb rfl hq e
     exact ⟨k3,.inr k4⟩
theorem Mem.freezeD (h:Mem G w0 Ob A B F μ m w) {b:Nat} {τ:Ty} {l:List (D τ)} (hb:m.at b = some (.dp τ l)) :
  ∃ F',Mem G w0 Ob A B F' μ ((b,some (.fz τ l)) :: m) w /\ Tr B F F' μ μ w w:=by
 obtain ⟨q,hq,hbox⟩:=h.box b _ hb
 obtain ⟨ν,hd⟩:=h.deep
 let F':Nat -> Prop:=fun c=>F c ∨ (∃ ad,q.a = some ad /\ c = ad.block) ∨ ν b c
 have tr:Tr B F F' μ μ w w:=⟨fun _ x=>.inl x,fun _ _ _ _ e=>e,fun _ _ _ _ e=>e,μ.le_refl⟩
 have hm:∀ c x,Hp.at ((b,some (.fz τ l)) :: m) c = some x -> (c = b /\ x = .fz τ l) ∨ (c ≠ b /\ m.at c = some x):=fun c x hx=>by
  rw [Hp.at_cons] at hx; split at hx
  · rename_i e; cases hx; exact .inl ⟨e.symm,rfl⟩
  · rename_i e; exact .inr ⟨Ne.symm e,hx⟩
 refine ⟨F',⟨h.ext,fun c x hx=>?_,fun c x p ad hx hz hp ha=>?_,fun c c' x x' p p' ad ad' hx hx' hz hz' hp hp' ha ha' he=>?_,fun c hc=>?_,h.bz,⟨fun g cs hg=>tr.R (h.glob.1 g cs hg),h.glob.2⟩,fun c k=>c ≠ b /\ ν c k,⟨fun c x p hx hp=>?_,fun c x k hx hk=>?_,fun c x k c' x' p ad hx hk hx' hz hp ha=>?_,fun c c' x x' k hx hx' hk hk'=>?_⟩⟩,tr⟩
 · rcases hm c x hx with ⟨rfl,rfl⟩ | ⟨_,hx⟩
   · refine ⟨q,hq,?_⟩
     obtain ⟨e1,e2,e3,e4,e5⟩:=hbox
     exact ⟨e1,e2,e3,e4,fun ad e=>⟨(e5 ad e).1,.inr (.inl ⟨ad,e,rfl⟩),(hd.nest c _ q hb hq ad e).rows (fun k hk=>.inr (.inr hk))⟩⟩
   · obtain ⟨p,hp,hbx⟩:=h.box c x hx
     exact ⟨p,hp,hbx.mono tr (fun _ _ _=>rfl)⟩
 · rcases hm c x hx with ⟨rfl,rfl⟩ | ⟨hne,hx⟩
   · cases hz
   · obtain ⟨k1,k2,k3,k4⟩:=h.own c x p ad hx hz hp ha
     refine ⟨?_,k2,k3,k4⟩
     rintro (hf | ⟨ad',e,he⟩ | hv)
     · exact k1 hf
     · exact hne (h.inj c b x _ p q ad ad' hx hb hz rfl hp hq ha e he)
     · exact hd.apart b _ _ c x p ad hb hv hx hz hp ha rfl
 · rcases hm c x hx with ⟨rfl,rfl⟩ | ⟨_,hx⟩
   · cases hz
   rcases hm c' x' hx' with ⟨rfl,rfl⟩ | ⟨_,hx'⟩
   · cases hz'
   exact h.inj c c' x x' p p' ad ad' hx hx' hz hz' hp hp' ha ha' he
 · rcases hc with hc | ⟨ad,e,rfl⟩ | hc
   · exact h.fz c hc
   · obtain ⟨_,_,k3,k4⟩:=h.own b _ q ad hb rfl hq e
     exact ⟨k3,.inr k4⟩
   · obtain ⟨_,_,k3,k4⟩:=hd.own b _ c hb hc
     exact ⟨k3,.inr k4⟩
 · rcases hm c x hx with ⟨rfl,rfl⟩ | ⟨hne,hx⟩
   · trivial
   · have e:(fun k=>c ≠ b /\ ν c k) = ν c:=by funext k; simp [hne]
     rw [e]; exact hd.nest c x p hx hp
 · rcases hm c x hx with ⟨rfl,rfl⟩ | ⟨hne,hx⟩
   · exact absurd rfl hk.1
   · obtain ⟨k1,k2,k3,k4⟩:=hd.own c x k hx hk.2
     refine ⟨?_,k2,k3,k4⟩
     rintro (hf | ⟨ad',e,he⟩ | hv)
     · exact k1 hf
     · exact hd.apart c x k b _ q ad' hx hk.2 hb rfl hq e he.symm
     · exact hne (hd.inj c b x _ k hx hb hk.2 hv)
 · rcases hm c x hx with ⟨rfl,rfl⟩ | ⟨hne,hx⟩
   · exact absurd rfl hk.1
   rcases hm c' x' hx' with ⟨rfl,rfl⟩ | ⟨_,hx'⟩
   · cases hz
   exact hd.apart c x k c' x' p ad hx hk.2 hx' hz hp ha
 · rcases hm c x hx with ⟨rfl,rfl⟩ | ⟨hne,hx⟩
   · exact absurd rfl hk.1
   rcases hm c' x' hx' with ⟨rfl,rfl⟩ | ⟨hne',hx'⟩
   · exact absurd rfl hk'.1
   exact hd.inj c c' x x' k hx hx' hk.2 hk'.2
theorem Mem.down (h:Mem G w0 Ob A B F μ m w) {b:Nat} {τ:Ty} {l:List (D τ)} (hb:m.at b = some (.dp τ l)) :
  ∃ F',Mem G w0 Ob A B F' μ ((b,some (.rows τ l)) :: m) w /\ Tr B F F' μ μ w w:=by
 obtain ⟨q,hq,hbox⟩:=h.box b _ hb
 obtain ⟨ν,hd⟩:=h.deep
 let F':Nat -> Prop:=fun c=>F c ∨ ν b c
 have tr:Tr B F F' μ μ w w:=⟨fun _ x=>.inl x,fun _ _ _ _ e=>e,fun _ _ _ _ e=>e,μ.le_refl⟩
 have hm:∀ c x,Hp.at ((b,some (.rows τ l)) :: m) c = some x -> (c = b /\ x = .rows τ l) ∨ (c ≠ b /\ m.at c = some x):=fun c x hx=>by
  rw [Hp.at_cons] at hx; split at hx
  · rename_i e; cases hx; exact .inl ⟨e.symm,rfl⟩
  · rename_i e; exact .inr ⟨Ne.symm e,hx⟩
 refine ⟨F',⟨h.ext,fun c x hx=>?_,fun c x p ad hx hz hp ha=>?_,fun c c' x x' p p' ad ad' hx hx' hz hz' hp hp' ha ha' he=>?_,fun c hc=>?_,h.bz,⟨fun g cs hg=>tr.R (h.glob.1 g cs hg),h.glob.2⟩,fun c k=>c ≠ b /\ ν c k,⟨fun c x p hx hp=>?_,fun c x k hx hk=>?_,fun c x k c' x' p ad hx hk hx' hz hp ha=>?_,fun c c' x x' k hx hx' hk hk'=>?_⟩⟩,tr⟩
 · rcases hm c x hx with ⟨rfl,rfl⟩ | ⟨_,hx⟩
   · refine ⟨q,hq,?_⟩
     obtain ⟨e1,e2,e3,e4,e5⟩:=hbox
     exact ⟨e1,e2,e3,e4,fun ad e=>⟨(e5 ad e).1,(hd.nest c _ q hb hq ad e).rows (fun k hk=>.inr hk),e3 ▸ (e5 ad e).2⟩⟩
   · obtain ⟨p,hp,hbx⟩:=h.box c x hx
     exact ⟨p,hp,hbx.mono tr (fun _ _ _=>rfl)⟩
 · obtain ⟨u,hu,hu2⟩:∃ u,m.at c = some u /\ u.isFz = false:=by
     rcases hm c x hx with ⟨rfl,rfl⟩ | ⟨_,hx⟩
     · exact ⟨_,hb,rfl⟩
     · exact ⟨_,hx,hz⟩
   obtain ⟨k1,k2,k3,k4⟩:=h.own c u p ad hu hu2 hp ha
   refine ⟨?_,k2,k3,k4⟩
   rintro (hf | hv)
   · exact k1 hf
   · exact hd.apart b _ _ c u p ad hb hv hu hu2 hp ha rfl
 · obtain ⟨u,hu,hu2⟩:∃ u,m.at c = some u /\ u.isFz = false:=by
     rcases hm c x hx with ⟨rfl,rfl⟩ | ⟨_,hx⟩
     · exact ⟨_,hb,rfl⟩
     · exact ⟨_,hx,hz⟩
   obtain ⟨u',hu',hu2'⟩:∃ u,m.at c' = some u /\ u.isFz = false:=by
    rcases hm c' x' hx' with ⟨rfl,rfl⟩ | ⟨_,hx'⟩
    · exact ⟨_,hb,rfl⟩
    · exact ⟨_,hx',hz'⟩
   exact h.inj c c' u u' p p' ad ad' hu hu' hu2 hu2' hp hp' ha ha' he
 · rcases hc with hc | hc
   · exact h.fz c hc
   · obtain ⟨_,_,k3,k4⟩:=hd.own b _ c hb hc
     exact ⟨k3,.inr k4⟩
 · rcases hm c x hx with ⟨rfl,rfl⟩ | ⟨hne,hx⟩
   · trivial
   · have e:(fun k=>c ≠ b /\ ν c k) = ν c:=by funext k; simp [hne]
     rw [e]; exact hd.nest c x p hx hp
 · rcases hm c x hx with ⟨rfl,rfl⟩ | ⟨hne,hx⟩
   · exact absurd rfl hk.1
   · obtain ⟨k1,k2,k3,k4⟩:=hd.own c x k hx hk.2
     refine ⟨?_,k2,k3,k4⟩
     rintro (hf | hv)
     · exact k1 hf
     · exact hne (hd.inj c b x _ k hx hb hk.2 hv)
 · rcases hm c x hx with ⟨e1,_⟩ | ⟨hne,hx0⟩
   · exact absurd e1 hk.1
   rcases hm c' x' hx' with ⟨rfl,rfl⟩ | ⟨_,hx0'⟩
   · exact hd.apart c x k c' _ p ad hx0 hk.2 hb rfl hp ha
   · exact hd.apart c x k c' x' p ad hx0 hk.2 hx0' hz hp ha
 · rcases hm c x hx with ⟨rfl,rfl⟩ | ⟨hne,hx⟩
   · exact absurd rfl hk.1
   rcases hm c' x' hx' with ⟨rfl,rfl⟩ | ⟨hne',hx'⟩
   · exact absurd rfl hk'.1
   exact hd.inj c c' x x' k hx hx' hk.2 hk'.2
theorem Mem.down1 (h:Mem G w0 Ob A B F μ m w) (v:V):∃ F',Mem G w0 Ob A B F' μ (E.down1 m v) w /\ Tr B F F' μ μ w w:=by
 unfold E.down1
 split
 · split
   · rename_i hb; exact h.down hb
   · exact ⟨F,h,Tr.refl _ _ _ _⟩
 · exact ⟨F,h,Tr.refl _ _ _ _⟩
theorem Mem.downL (l:List V):∀ {F:Nat -> Prop} {m:Hp},Mem G w0 Ob A B F μ m w -> ∃ F',Mem G w0 Ob A B F' μ (l.foldl E.down1 m) w /\ Tr B F F' μ μ w w:=by
 induction l with
 | nil=>intro F m h; exact ⟨F,h,Tr.refl _ _ _ _⟩
 | cons v l ih =>
   intro F m h
   obtain ⟨F1,h1,t1⟩:=h.down1 v
   obtain ⟨F2,h2,t2⟩:=ih h1
   exact ⟨F2,h2,t1.trans t2⟩
theorem Mem.downs (h:Mem G w0 Ob A B F μ m w) (dn:List Nat) (g:Nat) (args:List V):∃ F',Mem G w0 Ob A B F' μ (E.downs dn g args m) w /\ Tr B F F' μ μ w w:=by
 unfold E.downs
 split
 · exact h.downL args
 · exact ⟨F,h,Tr.refl _ _ _ _⟩
theorem Mem.frz1 (h:Mem G w0 Ob A B F μ m w) (v:V):∃ F',Mem G w0 Ob A B F' μ (frz1 m v) w /\ Tr B F F' μ μ w w:=by
 have h0:∃ F',Mem G w0 Ob A B F' μ m w /\ Tr B F F' μ μ w w:=⟨F,h,Tr.refl _ _ _ _⟩
 cases v <;> simp only [E.frz1] <;> first | exact h0 | skip
 split
 · rename_i hb; exact h.freeze hb
 · rename_i hb; exact h.freezeD hb
 · exact h0
theorem Mem.frzL (l:List V):∀ {F:Nat -> Prop} {m:Hp},Mem G w0 Ob A B F μ m w -> ∃ F',Mem G w0 Ob A B F' μ (l.foldl E.frz1 m) w /\ Tr B F F' μ μ w w:=by
 induction l with
 | nil=>intro F m h; exact ⟨F,h,Tr.refl _ _ _ _⟩
 | cons v r ih =>
   intro F m h
   obtain ⟨F1,h1,t1⟩:=h.frz1 v
   obtain ⟨F2,h2,t2⟩:=ih h1
   exact ⟨F2,h2,t1.trans t2⟩
theorem Mem.frz (h:Mem G w0 Ob A B F μ m w) (v:V):∃ F',Mem G w0 Ob A B F' μ (frz m v) w /\ Tr B F F' μ μ w w:=by
 cases v <;> simp only [E.frz] <;> first | exact h.frz1 _ | exact Mem.frzL _ h
theorem Mem.frzF (l:List V):∀ {F:Nat -> Prop} {m:Hp},Mem G w0 Ob A B F μ m w -> ∃ F',Mem G w0 Ob A B F' μ (l.foldl E.frz m) w /\ Tr B F F' μ μ w w:=by
 induction l with
 | nil=>intro F m h; exact ⟨F,h,Tr.refl _ _ _ _⟩
 | cons v r ih =>
   intro F m h
   obtain ⟨F1,h1,t1⟩:=h.frz v
   obtain ⟨F2,h2,t2⟩:=ih h1
   exact ⟨F2,h2,t1.trans t2⟩
end
end Go.E
namespace Go.E
open Go Go.RowKit
def toFz:Option Bx -> Option Bx
 | some (.rows τ l)=>some (.fz τ l)
 | some (.dp τ l)=>some (.fz τ l)
 | o=>o
theorem toFz_toFz (o:Option Bx):toFz (toFz o) = toFz o:=by
 cases o with
 | none=>rfl
 | some x=>cases x <;> rfl
theorem frz1_at (m:Hp) (v:V) (c:Nat):(frz1 m v).at c = if c ∈ Ze3 v then toFz (m.at c) else m.at c:=by
 cases v <;> simp only [frz1,Ze3,List.not_mem_nil,if_false,List.mem_singleton]
 rename_i b
 split
 · rename_i τ l hb
   rw [Hp.at_cons]
   by_cases h:b = c
   · subst h; simp [hb,toFz]
   · simp [h,Ne.symm h]
 · rename_i τ l hb
   rw [Hp.at_cons]
   by_cases h:b = c
   · subst h; simp [hb,toFz]
   · simp [h,Ne.symm h]
 · rename_i hb hb2
   by_cases h:c = b
   · subst h; simp only [if_true]
     unfold toFz; split
     · rename_i τ l e; exact absurd e (hb τ l)
     · rename_i τ l e; exact absurd e (hb2 τ l)
     · rfl
   · simp [h]
theorem frzL_at (cs:List V):∀ (m:Hp) (c:Nat),Hp.at (cs.foldl frz1 m) c = if c ∈ cs.flatMap Ze3 then toFz (m.at c) else m.at c:=by
 induction cs with
 | nil=>intro m c; simp
 | cons v r ih =>
   intro m c
   simp only [List.foldl_cons,ih,frz1_at,List.flatMap_cons,List.mem_append]
   by_cases h1:c ∈ Ze3 v <;> by_cases h2:c ∈ r.flatMap Ze3 <;> simp [h1,h2,toFz_toFz]
theorem frz_at (m:Hp) (v:V) (c:Nat):(frz m v).at c = if c ∈ arrs v then toFz (m.at c) else m.at c:=by
 cases v <;> simp only [frz,arrs] <;> first | exact frzL_at _ _ _ | exact frz1_at _ _ _
theorem Zcb {τ σ:Ty} {x:D τ} {y:D σ} (h:Zev x = some y):∃ e:τ = σ,y = e ▸ x:=by
 unfold Zev at h
 split at h
 · rename_i e; cases h; exact ⟨e,rfl⟩
 · cases h
section
variable {G:List (Nat × List V)} {w0:World} {Ob A B F X:Nat -> Prop} {μ:Mu} {m:Hp} {w:World}
def InR (X:Nat -> Prop) (μ:Mu) (m:Hp) (l:List Nat):Prop:=∀ b ∈ l,∀ τ r q ad,m.at b = some (.rows τ r) -> μ b = some (some q) -> q.a = some ad -> X ad.block
def InD (X:Nat -> Prop) (μ:Mu) (m:Hp) (w:World) (l:List Nat):Prop:=∀ b ∈ l,∀ τ r q ad,m.at b = some (.dp τ r) -> μ b = some (some q) -> q.a = some ad -> X ad.block /\ Zgu X w τ r ad
def In (X:Nat -> Prop) (μ:Mu) (m:Hp) (w:World) (l:List Nat):Prop:=InR X μ m l /\ InD X μ m w l
theorem In.app {l r:List Nat}:In X μ m w (l ++ r) ↔ In X μ m w l /\ In X μ m w r:=by
 unfold In InR InD; simp only [List.mem_append]
 exact ⟨fun h=>⟨⟨fun b hb=>h.1 b (.inl hb),fun b hb=>h.2 b (.inl hb)⟩,⟨fun b hb=>h.1 b (.inr hb),fun b hb=>h.2 b (.inr hb)⟩⟩,fun h=>⟨fun b hb=>hb.elim (h.1.1 b) (h.2.1 b),fun b hb=>hb.elim (h.1.2 b) (h.2.2 b)⟩⟩
theorem In.nil:In X μ m w []:=⟨fun b hb=>(nomatch hb),fun b hb=>(nomatch hb)⟩
theorem In.all {G:List (Nat × List V)} {w0:World} {Ob A B F:Nat -> Prop} (h:Mem G w0 Ob A B F μ m w) (l:List Nat):In (fun _=>True) μ m w l:=by
 obtain ⟨ν,hd⟩:=h.deep
 exact ⟨fun _ _ _ _ _ _ _ _ _=>trivial,fun b _ τ r q ad e1 e2 e3=>⟨trivial,(hd.nest b _ q e1 e2 ad e3).rows (fun _ _=>trivial)⟩⟩
structure SlR (F X:Nat -> Prop) (w:World) (τ:Ty) (l:List (D τ)) (v:Value) (a:Option Addr) (cap:Nat):Prop where
 val:v = .slice a l.length cap
 le:l.length <= cap
 nil:a = none -> cap = 0
 at_:∀ ad,a = some ad -> 0 < l.length -> ad.spot = none /\ X ad.block /\ Zgu F w τ l ad
theorem Zid (h:Mem G w0 Ob A B F μ m w) (hX:∀ b,F b -> X b) {v:V} {cv:Value} (hr:R F B w μ v cv) (hv:InR X μ m (Ze3 v)) {τ:Ty} {l:List (D τ)} (hl:Zeq m τ v = some l) :
  ∃ a cap,SlR F X w τ l cv a cap:=by
 cases v with
 | val σ x =>
   cases σ with
   | sl e =>
     simp only [Zeq] at hl
     obtain ⟨e1,rfl⟩:=Zcb hl
     cases e1
     simp only [R,Ty.agg,RC] at hr
     obtain ⟨a,cap,e1,h1,h2,h3⟩:=hr
     cases e1
     exact ⟨a,cap,rfl,h1,h2,fun ad e hc=>⟨(h3 ad e hc).1,hX _ (h3 ad e hc).2.1,(h3 ad e hc).2.2⟩⟩
   | _=>simp [Zeq] at hl
 | nil =>
   simp only [Zeq,Option.some.injEq] at hl; subst hl
   simp only [R] at hr; subst hr
   exact ⟨none,0,rfl,Nat.le_refl _,fun _=>rfl,fun _ e=>by cases e⟩
 | arr b =>
   simp only [Zeq] at hl
   simp only [R] at hr
   obtain ⟨o,e1,a0,n0,c0,rfl,e2⟩:=hr
   split at hl
   · rename_i σ r hb
     obtain ⟨e3,rfl⟩:=Zcb hl
     cases e3
     obtain ⟨q,e4,k1,k2,k3,k4,k5⟩:=h.box b _ hb
     rw [e1] at e4; cases e4
     obtain ⟨rfl,rfl,rfl⟩:=e2 q rfl
     exact ⟨q.a,q.cap,by rw [k1],k1 ▸ k2,k4,fun ad e _=>⟨(k5 ad e).1,hv b (by simp [Ze3]) _ _ q ad hb e1 e,(k5 ad e).2.1⟩⟩
   · rename_i σ r hb
     obtain ⟨e3,rfl⟩:=Zcb hl
     cases e3
     obtain ⟨q,e4,k1,k2,k3,k4,k5⟩:=h.box b _ hb
     rw [e1] at e4; cases e4
     obtain ⟨rfl,rfl,rfl⟩:=e2 q rfl
     exact ⟨q.a,q.cap,by rw [k1],k1 ▸ k2,k4,fun ad e _=>⟨(k5 ad e).1,hX _ (k5 ad e).2.1,(k5 ad e).2.2⟩⟩
   · cases hl
 | _=>simp [Zeq] at hl
theorem RC_of_SlR (hX:∀ b,F b -> X b) {τ:Ty} {l:List (D τ)} {cv:Value} {a:Option Addr} {cap:Nat} (h:SlR F X w τ l cv a cap):RC X w (.sl τ) l [cv]:=by
 simp only [RC]
 exact ⟨a,cap,by rw [h.val],h.le,h.nil,fun ad e hc=>⟨(h.at_ ad e hc).1,(h.at_ ad e hc).2.1,fun i x hx=>by
  obtain ⟨c,k1,k2⟩:=(h.at_ ad e hc).2.2 i x hx
  exact ⟨c,k1.mono hX (fun _ _ _ _ e=>e),k2⟩⟩⟩
theorem Zf7 (h:Mem G w0 Ob A B F μ m w) (hX:∀ b,F b -> X b) {v:V} {cv:Value} (hr:R F B w μ v cv) (hv:In X μ m w (Ze3 v)) {τ:Ty} (hτ:τ.agg = false) {x:D τ} (hl:Zel m τ v = some x) :
  RC X w τ x [cv]:=by
 by_cases hval:∃ σ y,v = .val σ y
 · obtain ⟨σ,y,rfl⟩:=hval
   simp only [Zel] at hl
   obtain ⟨e,rfl⟩:=Zcb hl
   cases e
   simp only [R,hτ] at hr
   exact hr.mono hX (fun _ _ _ _ e=>e)
 · have h2:∃ e,∃ (he:τ = .sl e),∃ l,(Zeq m e v = some l ∨ dpOf m e v = some l) /\ x = he ▸ l:=by
     have go:∀ e (y:D (.sl e)),(match Zeq m e v with
       | some l=>some l
       | none=>dpOf m e v) = some y -> Zeq m e v = some y ∨ dpOf m e v = some y:=fun e y hy=>by
      split at hy
      · rename_i l hl; exact .inl (hl.trans hy)
      · exact .inr hy
     cases v <;> simp only [Zel] at hl
     case val σ y=>exact absurd ⟨σ,y,rfl⟩ hval
     all_goals
      cases τ <;> simp only [reduceCtorEq] at hl
      exact ⟨_,rfl,_,go _ _ hl,rfl⟩
   obtain ⟨e,he,l,hl2,hx⟩:=h2
   cases he; cases hx
   rcases hl2 with hl2 | hl2
   · obtain ⟨a,cap,hs⟩:=Zid h hX hr hv.1 hl2
     exact RC_of_SlR hX hs
   · cases v with
     | arr b =>
       simp only [dpOf] at hl2
       split at hl2
       · rename_i σ r hb
         obtain ⟨e3,rfl⟩:=Zcb hl2
         cases e3
         obtain ⟨q,e4,k1,k2,k3,k4,k5⟩:=h.box b _ hb
         simp only [R] at hr
         obtain ⟨o,e1,a,n,c,rfl,e2⟩:=hr
         rw [e1] at e4; cases e4
         obtain ⟨rfl,rfl,rfl⟩:=e2 q rfl
         simp only [RC]
         refine ⟨q.a,q.cap,by rw [k1],k1 ▸ k2,k4,fun ad e _=>?_⟩
         obtain ⟨g1,g2⟩:=hv.2 b (by simp [Ze3]) _ _ q ad hb e1 e
         exact ⟨(k5 ad e).1,g1,g2⟩
       · cases hl2
     | _=>simp [dpOf] at hl2
theorem typed1_arr {b:Nat} {e:Ty} {x:List (D e)} (h:Zel m (.sl e) (.arr b) = some x):Zeq m e (.arr b) = some x ∨ dpOf m e (.arr b) = some x:=by
 simp only [Zel] at h
 split at h
 · rename_i l hl; exact .inl (hl.trans h)
 · exact .inr h
theorem Zin {b:Nat} {e σ:Ty} {l:List (D σ)} {x:List (D e)} (hb:m.at b = some (.rows σ l)) (h:Zel m (.sl e) (.arr b) = some x):Zev (τ:=.sl σ) (σ:=.sl e) l = some x:=by
 rcases typed1_arr h with h | h
 · simpa only [Zeq,hb] using h
 · simp [dpOf,hb] at h
theorem Zeg {τ:Ty} (h1:τ.agg = false) (h2:τ ≠ .unit) {cs:List V} {x:D τ} {r:List V} (hl:asm m τ cs = some (x,r)):∃ v,cs = v :: r /\ Zel m τ v = some x:=by
 cases cs with
 | nil=>cases τ <;> simp [asm,Ty.agg] at hl h1 h2
 | cons v cs =>
   cases τ <;> simp [Ty.agg] at h1 h2 <;> simp only [asm] at hl <;> split at hl <;> simp at hl <;>
    (rename_i y hy; obtain ⟨e1,e2⟩:=hl; exact ⟨v,by rw [e2],by rw [← e1]; exact hy⟩)
theorem asm_ok (h:Mem G w0 Ob A B F μ m w) (hX:∀ b,F b -> X b):∀ (τ:Ty) {cs:List V} {vs:List Value} (hr:RL F B w μ cs vs) (hv:In X μ m w (cs.flatMap Ze3)) {x:D τ} {r:List V} (hl:asm m τ cs = some (x,r)),
  ∃ v1 v2,vs = v1 ++ v2 /\ RC X w τ x v1 /\ RL F B w μ r v2 /\ In X μ m w (r.flatMap Ze3):=by
 intro τ
 have leaf:∀ (τ:Ty),τ.agg = false -> ∀ {cs:List V} {vs:List Value} (hr:RL F B w μ cs vs) (hv:In X μ m w (cs.flatMap Ze3)) {x:D τ} {r:List V}
   (hl:∃ v,cs = v :: r /\ Zel m τ v = some x),
   ∃ v1 v2,vs = v1 ++ v2 /\ RC X w τ x v1 /\ RL F B w μ r v2 /\ In X μ m w (r.flatMap Ze3):=by
  intro τ hτ cs vs hr hv x r hl
  obtain ⟨v,rfl,hl⟩:=hl
  cases vs with
  | nil=>simp [RL] at hr
  | cons cv vs =>
    simp only [RL] at hr
    simp only [List.flatMap_cons,In.app] at hv
    exact ⟨[cv],vs,rfl,Zf7 h hX hr.1 hv.1 hτ hl,hr.2,hv.2⟩
 induction τ with
 | pr a b iha ihb =>
   intro cs vs hr hv x r hl
   simp only [asm] at hl
   split at hl
   · rename_i y r1 h1
     split at hl
     · rename_i z r2 h2
       cases hl
       obtain ⟨v1,v2,rfl,k1,k2,k3⟩:=iha hr hv h1
       obtain ⟨v3,v4,rfl,k4,k5,k6⟩:=ihb k2 k3 h2
       exact ⟨v1 ++ v3,v4,by simp,by simp only [RC]; exact ⟨v1,v3,rfl,k1,k4⟩,k5,k6⟩
     · cases hl
   · cases hl
 | unit =>
   intro cs vs hr hv x r hl
   simp only [asm,Option.some.injEq,Prod.mk.injEq] at hl
   obtain ⟨_,rfl⟩:=hl
   exact ⟨[],vs,rfl,by simp only [RC],hr,hv⟩
 | q =>
   intro cs vs hr hv x r hl
   simp only [asm] at hl
   split at hl
   · rename_i a b c d e f r1
     cases vs with
     | nil=>simp [RL] at hr
     | cons va vs=>cases vs with
       | nil=>simp [RL] at hr
       | cons vb vs=>cases vs with
         | nil=>simp [RL] at hr
         | cons vc vs=>cases vs with
           | nil=>simp [RL] at hr
           | cons vd vs=>cases vs with
             | nil=>simp [RL] at hr
             | cons ve vs=>cases vs with
               | nil=>simp [RL] at hr
               | cons vf vs =>
                 simp only [RL] at hr
                 simp only [List.flatMap_cons,In.app] at hv
                 split at hl
                 · rename_i a' b' c' d' e' f' ha hb hc hd he hf
                   cases hl
                   have ka:=Zf7 h hX hr.1 hv.1 rfl ha
                   have kb:=Zf7 h hX hr.2.1 hv.2.1 rfl hb
                   have kc:=Zf7 h hX hr.2.2.1 hv.2.2.1 rfl hc
                   have kd:=Zf7 h hX hr.2.2.2.1 hv.2.2.2.1 rfl hd
                   have ke:=Zf7 h hX hr.2.2.2.2.1 hv.2.2.2.2.1 rfl he
                   have kf:=Zf7 h hX hr.2.2.2.2.2.1 hv.2.2.2.2.2.1 rfl hf
                   simp only [RC,List.cons.injEq,and_true] at ka kb kc kd ke
                   simp only [RC] at kf
                   subst ka kb kc kd ke
                   obtain ⟨a,cap,kf0,h1,h2,h3⟩:=kf
                   cases kf0
                   refine ⟨[_,_,_,_,_,_],vs,rfl,?_,hr.2.2.2.2.2.2,hv.2.2.2.2.2.2⟩
                   simp only [RC]
                   have hc:∀ (i:Nat),∃ c,∀ x,(f':List Q)[i]? = some x -> RQ X w x c /\ ∀ ad,a = some ad -> Zdz w ad.block (ad.off + i * 6) c:=fun i=>by
                    cases hi:(f':List Q)[i]? with
                    | none=>exact ⟨[],fun x e=>by cases e⟩
                    | some y =>
                      cases ha:a with
                      | none =>
                        have h0:(f':List Q).length = 0:=by have:=h2 ha; omega
                        have:(f':List Q) = []:=List.length_eq_zero_iff.1 h0
                        rw [this] at hi; simp at hi
                      | some ad =>
                        obtain ⟨c,k1,k2⟩:=(h3 ad ha (by have h1:(f':List Q).length <= cap:=h1; have:=(List.getElem?_eq_some_iff.1 hi).1; omega)).2.2 i y hi
                        exact ⟨c,fun x e=>by cases e; exact ⟨k1,fun ad' e'=>by cases e'; exact k2⟩⟩
                   exact .mk _ _ _ _ _ _ a cap (fun i=>(hc i).choose) h1 h2 (fun ad e hc=>⟨(h3 ad e hc).1,(h3 ad e hc).2.1⟩)
                    (fun i x e=>((hc i).choose_spec x e).1) (fun ad i x e e'=>((hc i).choose_spec x e').2 ad e)
                 · cases hl
   · cases hl
 | int k=>intro cs vs hr hv x r hl; exact leaf (.int k) rfl hr hv (Zeg rfl (by simp) hl)
 | bool=>intro cs vs hr hv x r hl; exact leaf .bool rfl hr hv (Zeg rfl (by simp) hl)
 | str=>intro cs vs hr hv x r hl; exact leaf .str rfl hr hv (Zeg rfl (by simp) hl)
 | err=>intro cs vs hr hv x r hl; exact leaf .err rfl hr hv (Zeg rfl (by simp) hl)
 | sl e=>intro cs vs hr hv x r hl; exact leaf (.sl e) rfl hr hv (Zeg rfl (by simp) hl)
theorem typed_ok (h:Mem G w0 Ob A B F μ m w) (hX:∀ b,F b -> X b) {v:V} {cv:Value} (hr:R F B w μ v cv) (hv:In X μ m w (arrs v)) {τ:Ty} {x:D τ} (hl:Zgh m τ v = some x) :
  (τ.agg = true -> ∃ cs,cv = .agg cs /\ RC X w τ x cs.toList) /\ (τ.agg = false -> RC X w τ x [cv]):=by
 cases v with
 | val σ y =>
   simp only [Zgh] at hl
   obtain ⟨e,rfl⟩:=Zcb hl
   cases e
   simp only [R] at hr
   constructor
   · intro ha; rw [ha] at hr; obtain ⟨cs,e,k⟩:=hr; exact ⟨cs,e,k.mono hX (fun _ _ _ _ e=>e)⟩
   · intro ha; rw [ha] at hr; exact RC.mono hX (fun _ _ _ _ e=>e) hr
 | agg cs =>
   simp only [Zgh] at hl
   split at hl
   · rename_i hta
     split at hl
     · rename_i x' hx
       cases hl
       simp only [R] at hr
       obtain ⟨vs,e,k⟩:=hr
       obtain ⟨v1,v2,k1,k2,k3,_⟩:=asm_ok h hX τ k hv hx
       have:v2 = []:=by cases v2 with
        | nil=>rfl
        | cons _ _=>simp [RL] at k3
       subst this
       rw [List.append_nil] at k1
       exact ⟨fun _=>⟨vs,e,k1 ▸ k2⟩,fun h=>by rw [hta] at h; cases h⟩
     · cases hl
   · cases hl
 | _ =>
   simp only [Zgh] at hl
   constructor
   · intro ha
     cases τ <;> simp [Zel,Ty.agg] at hl ha
   · intro ha
     refine Zf7 h hX hr ?_ ha hl
     first | exact hv | exact In.nil
end
end Go.E
namespace Go.E
open Go Go.RowKit
structure Lay (P:Program) (L:List (Nat × TL)) (t:Nat) (l:TL):Prop where
 size:∃ i,P.info? t = some i /\ i.size = l.ty.width /\ i.bytes <= 512 /\ ∃ z,i.zero = some z /\ z.cells.toList.map scal = l.zero
 zagg:∀ i z,P.info? t = some i -> i.zero = some z -> l.ty.agg = false -> ∀ cs,z ≠ .agg cs
 pos:l.ty.width ≠ 0
 zlen:l.zero.length = l.ty.width
 und:∃ d,P.underlying t = some d /\ (match d with | .struct _ | .array _ _=>true | _=>false) = l.ty.agg
 kind:match l.k with
  | .int k=>P.underlying t = some (.int k) /\ l.ty = .int k
  | .bool=>P.underlying t = some .bool /\ l.ty = .bool
  | .str=>P.underlying t = some .string /\ l.ty = .str
  | .sl e=>P.underlying t = some (.slice e) /\ ∃ le,look L e = some le /\ l.ty = .sl le.ty
  | .st fs=>∃ fields,P.underlying t = some (.struct fields) /\ fs = (fields.toList.map fun f=>(f.offset,f.type)) /\
    (∀ f ∈ fields.toList,(f.name == "_") = false /\ ∃ lu,look L f.type = some lu /\ f.offset + lu.ty.width <= l.ty.width) /\
    P.stoodInHeld t = false /\ P.eqGuardType P.depth t = false
  | .err=>(∃ ms,P.underlying t = some (.interface ms)) /\ l.ty = .err
  | .mp k e=>P.underlying t = some (.map k e)
  | _=>True
theorem Lay.run_agg {P:Program} {L:List (Nat × TL)} {t:Nat} {l:TL} (h:Lay P L t l) (w:World):(isAgg t).run P w = .ok l.ty.agg w:=by
 obtain ⟨d,h1,h2⟩:=h.und
 rw [← h2]
 cases d <;> simp [isAgg,run_underlying h1]
theorem Lay.run_size {P:Program} {L:List (Nat × TL)} {t:Nat} {l:TL} (h:Lay P L t l) (w:World):(sizeOf t).run P w = .ok l.ty.width w:=by
 obtain ⟨i,h1,h2,_⟩:=h.size
 simp [Go.sizeOf,typeInfo,h1,h2]
theorem Lay.run_zero {P:Program} {L:List (Nat × TL)} {t:Nat} {l:TL} (h:Lay P L t l):∃ z,z.cells.toList.map scal = l.zero /\ z.cells.size = l.ty.width /\ ∀ w,(zeroValue t).run P w = .ok z w:=by
 obtain ⟨i,h1,h2,_,z,h3,h4⟩:=h.size
 refine ⟨z,h4,?_,fun w=>?_⟩
 · have:=congrArg List.length h4
   simpa [h.zlen] using this
 · simp [zeroValue,typeInfo,h1,h3]
theorem scal_ok (F B:Nat -> Prop) (w:World) (μ:Mu) (v:Value):R F B w μ (scal v) v:=by
 unfold scal; split
 all_goals simp only [R,Ty.agg,RC]
 exact ⟨_,rfl,fun _=>rfl,fun e=>by cases e⟩
theorem scalL_ok (F B:Nat -> Prop) (w:World) (μ:Mu):∀ (vs:List Value),RL F B w μ (vs.map scal) vs
 | []=>by simp [RL]
 | v :: r=>by simp only [List.map_cons,RL]; exact ⟨scal_ok F B w μ v,scalL_ok F B w μ r⟩
theorem ofVal_ok (F B:Nat -> Prop) (w:World) (μ:Mu) (v:Value):R F B w μ (ofVal v) v:=by
 unfold ofVal; split
 · rename_i cs; simp only [R]; exact ⟨cs,rfl,scalL_ok F B w μ _⟩
 · exact scal_ok F B w μ _
section
variable {P:Program} {G:List (Nat × List V)} {w0:World} {Ob A B F F':Nat -> Prop} {μ μ':Mu} {m m':Hp} {w w':World} {base:Nat}
structure Step1 (G:List (Nat × List V)) (w0:World) (Ob A B F:Nat -> Prop) (μ:Mu) (w:World) (base:Nat) (F':Nat -> Prop) (μ':Mu) (m':Hp) (w':World):Prop where
 mem:Mem G w0 Ob A B F' μ' m' w'
 tr:Tr B F F' μ μ' w w'
 loc:∀ id,¬ (base <= id /\ id < base + 64) -> μ id = none -> μ' id = none
theorem Step1.refl (h:Mem G w0 Ob A B F μ m w):Step1 G w0 Ob A B F μ w base F μ m w:=⟨h,Tr.refl _ _ _ _,fun _ _ h=>h⟩
def Good (P:Program) (G:List (Nat × List V)) (w0:World) (Ob A B F:Nat -> Prop) (μ:Mu) (base:Nat) (o:Oper) (a:Act) (w:World) (v:V) (m':Hp):Prop :=
 ∀ (Q:Exit -> Act -> World -> Prop) (N:Act -> World -> Prop),
   (∀ cv w' F' μ',Step1 G w0 Ob A B F μ w base F' μ' m' w' -> R F' B w' μ' v cv -> N (a.put o.dst cv) w') -> o.wp P a w N Q
theorem Good.value {o:Oper} {a:Act} {v:V} {cv:Value} (h:(execOp a.eval o).run P w = .ok (.value cv) w') (hs:Step1 G w0 Ob A B F μ w base F' μ' m' w') (hr:R F' B w' μ' v cv) :
  Good P G w0 Ob A B F μ base o a w v m':=fun Q N hN=>by
 unfold Oper.wp; rw [h]; exact hN cv w' F' μ' hs hr
theorem Good.skip {o:Oper} {a:Act} (h:(execOp a.eval o).run P w = .ok .skip w') (hs:Step1 G w0 Ob A B F μ w base F' μ' m' w') :
  Good P G w0 Ob A B F μ base o a w (.tup []) m':=fun Q N hN=>by
 unfold Oper.wp; rw [h]; exact hN undef w' F' μ' hs (by simp only [R]; exact ⟨#[],rfl,by simp [RL]⟩)
theorem Zd8 (b off n:Nat):(⟨b,off,none⟩:Addr).add n = ⟨b,off + n,none⟩:=by
 unfold Addr.add; split <;> simp_all
theorem RL.len:∀ {cs:List V} {vs:List Value},RL F B w μ cs vs -> cs.length = vs.length
 | [],[],_=>rfl
 | _ :: _,_ :: _,h=>by simp only [RL] at h; simp [RL.len h.2]
 | [],_ :: _,h=>by simp [RL] at h
 | _ :: _,[],h=>by simp [RL] at h
theorem RL.get:∀ {cs:List V} {vs:List Value},RL F B w μ cs vs -> ∀ {i:Nat} {v:V},cs[i]? = some v -> ∃ cv,vs[i]? = some cv /\ R F B w μ v cv
 | [],[],_,i,v,h=>by simp at h
 | a :: x,b :: y,h,i,v,hi=>by
   simp only [RL] at h
   cases i with
   | zero=>simp at hi; subst hi; exact ⟨b,by simp,h.1⟩
   | succ i=>simp at hi; obtain ⟨cv,k1,k2⟩:=RL.get h.2 hi; exact ⟨cv,by simpa using k1,k2⟩
 | [],_ :: _,h,_,_,_=>by simp [RL] at h
 | _ :: _,[],h,_,_,_=>by simp [RL] at h
theorem RL.drop:∀ {cs:List V} {vs:List Value},RL F B w μ cs vs -> ∀ n,RL F B w μ (cs.drop n) (vs.drop n)
 | cs,vs,h,0=>by simpa using h
 | [],[],_,n + 1=>by simp [RL]
 | a :: x,b :: y,h,n + 1=>by simp only [RL] at h; simpa using RL.drop h.2 n
 | [],_ :: _,h,_=>by simp [RL] at h
 | _ :: _,[],h,_=>by simp [RL] at h
theorem RL.take:∀ {cs:List V} {vs:List Value},RL F B w μ cs vs -> ∀ n,RL F B w μ (cs.take n) (vs.take n)
 | _,_,h,0=>by simp [RL]
 | [],[],_,n + 1=>by simp [RL]
 | a :: x,b :: y,h,n + 1=>by simp only [RL] at h; simp only [List.take_succ_cons,RL]; exact ⟨h.1,RL.take h.2 n⟩
 | [],_ :: _,h,_=>by simp [RL] at h
 | _ :: _,[],h,_=>by simp [RL] at h
theorem RL.app:∀ {cs:List V} {vs:List Value} {ds:List V} {us:List Value},RL F B w μ cs vs -> RL F B w μ ds us -> RL F B w μ (cs ++ ds) (vs ++ us)
 | [],[],_,_,_,k=>by simpa using k
 | a :: x,b :: y,_,_,h,k=>by simp only [RL] at h; simp only [List.cons_append,RL]; exact ⟨h.1,RL.app h.2 k⟩
 | [],_ :: _,_,_,h,_=>by simp [RL] at h
 | _ :: _,[],_,_,h,_=>by simp [RL] at h
theorem Zgr:∀ (τ:Ty) {x:D τ} {vs:List Value},RC F w τ x vs -> RL F B w μ (Zds τ x) vs
 | .pr a b,x,vs,h=>by
   simp only [RC] at h; obtain ⟨c,d,rfl,h1,h2⟩:=h
   exact RL.app (Zgr a h1) (Zgr b h2)
 | .q,x,vs,h=>by
   simp only [RC] at h
   cases h with
   | mk kind field text low high parts a cap c h1 h2 h3 h4 h5 =>
     simp only [Zds,Q.kind,Q.field,Q.text,Q.low,Q.high,Q.parts,RL,R,Ty.agg,RC,and_true,true_and]
     exact ⟨a,cap,rfl,h1,h2,fun ad e hc=>⟨(h3 ad e hc).1,(h3 ad e hc).2,fun i x hx=>⟨c i,h4 i x hx,h5 ad i x e hx⟩⟩⟩
 | .unit,x,vs,h=>by simp only [RC] at h; subst h; simp [Zds,RL]
 | .int k,x,vs,h=>by have h':=h; simp only [RC] at h; subst h; simp only [Zds,RL,R,Ty.agg,and_true]; exact h'
 | .bool,x,vs,h=>by have h':=h; simp only [RC] at h; subst h; simp only [Zds,RL,R,Ty.agg,and_true]; exact h'
 | .str,x,vs,h=>by have h':=h; simp only [RC] at h; subst h; simp only [Zds,RL,R,Ty.agg,and_true]; exact h'
 | .err,x,vs,h=>by have h':=h; simp only [RC] at h; obtain ⟨v,rfl,_⟩:=h; simp only [Zds,RL,R,Ty.agg,and_true]; exact h'
 | .sl e,x,vs,h=>by have h':=h; simp only [RC] at h; obtain ⟨_,_,rfl,_⟩:=h; simp only [Zds,RL,R,Ty.agg,and_true]; exact h'
theorem cells_ok {v:V} {cv:Value} (h:R F B w μ v cv) (hu:v ≠ .undef):RL F B w μ v.cells cv.cells.toList:=by
 cases v with
 | undef=>exact absurd rfl hu
 | val τ x =>
   simp only [R] at h
   cases hτ:τ.agg with
   | true=>rw [hτ] at h; obtain ⟨cs,rfl,k⟩:=h; exact Zgr τ k
   | false =>
     rw [hτ] at h
     have k:=Zgr (B:=B) (μ:=μ) τ h
     have e:cv.cells.toList = [cv]:=by
      have h1:=h
      cases τ with
      | int k=>simp only [RC] at h1; simp at h1; subst h1; rfl
      | bool=>simp only [RC] at h1; simp at h1; subst h1; rfl
      | str=>simp only [RC] at h1; simp at h1; subst h1; rfl
      | unit=>simp [RC] at h1
      | sl e=>simp only [RC] at h1; obtain ⟨a,cap,e,_⟩:=h1; simp at e; subst e; rfl
      | err =>
        simp only [RC] at h1; obtain ⟨v,e,h2,h3⟩:=h1; simp at e; subst e
        cases hb:(x:Bool) with
        | false=>rw [h2 hb]; rfl
        | true=>obtain ⟨t,y,e⟩:=h3 hb; rw [e]; rfl
      | pr a b=>cases hτ
      | q=>cases hτ
     rw [e]; exact k
 | agg cs=>simp only [R] at h; obtain ⟨vs,rfl,k⟩:=h; exact k
 | tup cs=>simp only [R] at h; obtain ⟨vs,rfl,k⟩:=h; simp only [V.cells,Value.cells,RL,R,and_true]; exact ⟨vs,rfl,k⟩
 | nil=>simp only [R] at h; subst h; simp [V.cells,Value.cells,RL,R]
 | nilp=>simp only [R] at h; subst h; simp [V.cells,Value.cells,RL,R]
 | arr b=>have h':=h; simp only [R] at h; obtain ⟨o,e,_,_,_,rfl,k⟩:=h; simp only [V.cells,Value.cells,RL,and_true]; exact h'
 | ptr b off=>have h':=h; simp only [R] at h; obtain ⟨o,e,_,rfl,k⟩:=h; simp only [V.cells,Value.cells,RL,and_true]; exact h'
 | ep b i off=>have h':=h; simp only [R] at h; obtain ⟨o,e,_,rfl,k⟩:=h; simp only [V.cells,Value.cells,RL,and_true]; exact h'
 | cut b lo hi=>have h':=h; simp only [R] at h; obtain ⟨o,e,_,_,_,rfl,k⟩:=h; simp only [V.cells,Value.cells,RL,and_true]; exact h'
 | map b=>have h':=h; simp only [R] at h; obtain ⟨o,e,_,rfl,k⟩:=h; simp only [V.cells,Value.cells,RL,and_true]; exact h'
 | it b=>have h':=h; simp only [R] at h; obtain ⟨o,e,_,rfl,k⟩:=h; simp only [V.cells,Value.cells,RL,and_true]; exact h'
 | rp τ x=>have h':=h; simp only [R] at h; obtain ⟨ad,cs,rfl,_⟩:=h; simp only [V.cells,Value.cells,RL,and_true]; exact h'
 | rc cs=>have h':=h; simp only [R] at h; obtain ⟨ad,vs,rfl,_⟩:=h; simp only [V.cells,Value.cells,RL,and_true]; exact h'
 | fn f cs=>have h':=h; simp only [R] at h; obtain ⟨y,rfl,_⟩:=h; simp only [V.cells,Value.cells,RL,and_true]; exact h'
end
end Go.E
namespace Go.E
open Go Go.RowKit
structure EnvOk (P:Program) (E:Env):Prop where
 nat:E.ok
 lay:∀ t l,look E.L t = some l -> Lay P E.L t l
theorem Zdy {R:Type} {E:Env} {t:Nat} {K:TL -> Option R} {r:R} (h:wT E t K = some r):∃ l,look E.L t = some l /\ K l = some r:=by
 unfold wT at h; split at h
 · rename_i l e; exact ⟨l,e,h⟩
 · cases h
theorem Zg0 {R:Type} {E:Env} {t:Nat} {K:TL -> Option R} {r:R} (h:wE E t K = some r):∃ l e le,look E.L t = some l /\ l.k = .sl e /\ look E.L e = some le /\ K le = some r:=by
 unfold wE at h
 obtain ⟨l,h1,h2⟩:=Zdy h
 split at h2
 · rename_i e he; obtain ⟨le,h3,h4⟩:=Zdy h2; exact ⟨l,e,le,h1,he,h3,h4⟩
 · cases h2
theorem wF_some {R:Type} {E:Env} {t i:Nat} {K:Nat -> TL -> Option R} {r:R} (h:wF E t i K = some r):∃ l fs off u lu,look E.L t = some l /\ l.k = .st fs /\ fs[i]? = some (off,u) /\ look E.L u = some lu /\ K off lu = some r:=by
 unfold wF at h
 obtain ⟨l,h1,h2⟩:=Zdy h
 split at h2
 · rename_i fs he
   split at h2
   · rename_i off u hf; obtain ⟨lu,h3,h4⟩:=Zdy h2; exact ⟨l,fs,off,u,lu,h1,he,hf,h3,h4⟩
   · cases h2
 · cases h2
theorem Zfj {R:Type} {b:Bool} {x y:Option R} {r:R} (h:iteB b x y = some r):(b = true /\ x = some r) ∨ (b = false /\ y = some r):=by
 unfold iteB at h; cases b <;> simp_all
theorem Zc4 {R:Type} {b:Bool} {x:Option R} {r:R} (h:iteB b x none = some r):b = true /\ x = some r:=by
 unfold iteB at h; cases b <;> simp_all
theorem Zd0 {α R:Type} {o:Option α} {f:α -> Option R} {r:R} (h:bindO o f = some r):∃ x,o = some x /\ f x = some r:=by
 unfold bindO at h; cases o <;> simp_all
theorem Zfl {R:Type} {v:V} {K:Int -> Option R} {r:R} (h:wI v K = some r):∃ (k:IntKind) (n:Int),v = .val (.int k) n /\ K n = some r:=by
 unfold wI at h; split at h
 · rename_i k n; exact ⟨k,n,rfl,h⟩
 · cases h
theorem Zgj {R:Type} {τ:Ty} {cs:List V} {K:D τ -> Option R} {r:R} (h:zeroD τ cs K = some r):∃ x,asm [] τ cs = some (x,[]) /\ K x = some r:=by
 unfold zeroD at h; split at h
 · rename_i x e; exact ⟨x,e,h⟩
 · cases h
def opF (E:Env) (o:Op) (base:Nat) (s:St):Option (V × Hp):=opK E o base s fun v m=>some (v,m)
theorem opK_eq {E:Env} {R:Type} (hE:E.ok) (o:Op) (base:Nat) (s:St) (K:V -> Hp -> Option R):opK E o base s K = (opF E o base s).bind fun p=>K p.1 p.2:=by
 unfold opF; rw [opK_bind hE]; rfl
section
variable {P:Program} {E:Env} {w0:World} {Ob A B F:Nat -> Prop} {μ:Mu} {w:World} {base:Nat} {s:St} {a:Act} {v:V} {m':Hp}
structure Pre (P:Program) (E:Env) (w0:World) (Ob A B F:Nat -> Prop) (μ:Mu) (s:St) (a:Act) (w:World):Prop where
 env:EnvOk P E
 mem:Mem E.G w0 Ob A B F μ s.m w
 ev:∀ x,R F B w μ (opnd E s x) (a.eval x)
theorem Good.same {o:Oper} (h:Pre P E w0 Ob A B F μ s a w) {cv:Value} (hr:(execOp a.eval o).run P w = .ok (.value cv) w) (hv:R F B w μ v cv):Good P E.G w0 Ob A B F μ base o a w v s.m :=
 Good.value hr (Step1.refl h.mem) hv
theorem good_move (h:Pre P E w0 Ob A B F μ s a w) {o:Oper} {x:Operand} (ho:o.op = .move x) (hf:opF E o.op base s = some (v,m')):Good P E.G w0 Ob A B F μ base o a w v m':=by
 rw [ho] at hf; simp only [opF,opK,Option.some.injEq,Prod.mk.injEq] at hf
 obtain ⟨rfl,rfl⟩:=hf
 exact Good.same h (by unfold execOp; rw [ho]; rfl) (h.ev x)
theorem good_assign (h:Pre P E w0 Ob A B F μ s a w) {o:Oper} {x:Operand} (ho:o.op = .assign x) (hf:opF E o.op base s = some (v,m')):Good P E.G w0 Ob A B F μ base o a w v m':=by
 rw [ho] at hf; simp only [opF,opK,Option.some.injEq,Prod.mk.injEq] at hf
 obtain ⟨rfl,rfl⟩:=hf
 exact Good.same h (by unfold execOp; rw [ho]; rfl) (h.ev x)
theorem R_bool {b:Bool} {cv:Value} (h:R F B w μ (.val .bool b) cv):cv = .bool b:=by simpa [R,Ty.agg,RC] using h
theorem Ziu {k:IntKind} {n:Int} {cv:Value} (h:R F B w μ (.val (.int k) n) cv):cv = .int k n:=by simpa [R,Ty.agg,RC] using h
theorem R_str {x:ByteArray} {cv:Value} (h:R F B w μ (.val .str x) cv):cv = .string x:=by simpa [R,Ty.agg,RC] using h
theorem Zfc (b:Bool):R F B w μ (.val .bool b) (.bool b):=by simp [R,Ty.agg,RC]
theorem Zib (k:IntKind) (n:Int):R F B w μ (.val (.int k) n) (.int k n):=by simp [R,Ty.agg,RC]
theorem mk_str (x:ByteArray):R F B w μ (.val .str x) (.string x):=by simp [R,Ty.agg,RC]
theorem good_pick (h:Pre P E w0 Ob A B F μ s a w) {o:Oper} {c x y:Operand} (ho:o.op = .pick c x y) (hf:opF E o.op base s = some (v,m')):Good P E.G w0 Ob A B F μ base o a w v m':=by
 rw [ho] at hf; simp only [opF,opK] at hf
 split at hf
 · rename_i t hc
   have ec:=R_bool (hc ▸ h.ev c)
   rcases Zfj hf with ⟨ht,hf⟩ | ⟨ht,hf⟩ <;> simp only [Option.some.injEq,Prod.mk.injEq] at hf <;> obtain ⟨rfl,rfl⟩:=hf
   · exact Good.same h (by unfold execOp; rw [ho]; simp [ec,asBool,ht]) (h.ev x)
   · exact Good.same h (by unfold execOp; rw [ho]; simp [ec,asBool,ht]) (h.ev y)
 · cases hf
theorem Zdz.at0 {b off:Nat} {cs:List Value} (h:Zdz w b off cs) {j:Nat} {cv:Value} (hj:cs[j]? = some cv):w.cell? ⟨b,off + j,none⟩ = some cv:=h j cv hj
theorem Zdz.sub {b off:Nat} {cs:List Value} (h:Zdz w b off cs) (i n:Nat):Zdz w b (off + i) ((cs.drop i).take n):=fun j cv hj=>by
 have:cs[i + j]? = some cv:=by
  rw [List.getElem?_take] at hj; split at hj
  · rw [List.getElem?_drop] at hj; exact hj
  · cases hj
 rw [Nat.add_assoc]; exact h _ _ this
theorem Zgk {t:Nat} {l:TL} (hl:Lay P E.L t l) {b off:Nat} {cs:List Value} (hc:Zdz w b off cs) (hn:cs.length = l.ty.width) :
  (l.ty.agg = true -> (loadVar t ⟨b,off,none⟩).run P w = .ok (.agg cs.toArray) w) /\ (l.ty.agg = false -> ∀ cv,cs = [cv] -> (loadVar t ⟨b,off,none⟩).run P w = .ok cv w):=by
 constructor
 · intro ha
   have h1:=run_loadCells_list (P:=P) w ⟨b,off,none⟩ cs (fun j v hj=>by rw [Zd8]; exact hc j v hj)
   simp [loadVar,hl.run_agg,ha,hl.run_size,← hn,h1]
 · intro ha cv e
   have h1:=hc 0 cv (by simp [e])
   simp at h1
   simp [loadVar,hl.run_agg,ha,h1]
theorem width_one {τ:Ty} (h:τ.agg = false) (h2:τ ≠ .unit):τ.width = 1:=by cases τ <;> simp_all [Ty.agg,Ty.width]
theorem cellK_some {R:Type} {l:TL} {cs:List V} {off:Nat} {m:Hp} {K:V -> Hp -> Option R} {r:R} (h:cellK l cs off m K = some r) :
  (l.ty.agg = true /\ off + l.ty.width <= cs.length /\ K (.agg ((cs.drop off).take l.ty.width)) m = some r) ∨ (l.ty.agg = false /\ ∃ v,cs[off]? = some v /\ K v m = some r):=by
 unfold cellK at h; split at h
 · rename_i ha
   split at h
   · rename_i hk; exact .inl ⟨ha,hk,h⟩
   · cases h
 · rename_i ha
   split at h
   · rename_i v hv; exact .inr ⟨ha,v,hv,h⟩
   · cases h
theorem cell_load {t:Nat} {l:TL} (hl:Lay P E.L t l) {b off:Nat} {cs:List V} {vs:List Value} (hr:RL F B w μ cs vs) (hc:Zdz w b off vs) {k:Nat} {m:Hp}
  (hf:cellK l cs k m (fun v m=>some (v,m)) = some (v,m')):m' = m /\ ∃ cv,(loadVar t ⟨b,off + k,none⟩).run P w = .ok cv w /\ R F B w μ v cv:=by
 rcases cellK_some hf with ⟨ha,hk,hf⟩ | ⟨ha,u,hu,hf⟩ <;> simp only [Option.some.injEq,Prod.mk.injEq] at hf <;> obtain ⟨rfl,rfl⟩:=hf
 · have hn:((vs.drop k).take l.ty.width).length = l.ty.width:=by have:=RL.len hr; simp; omega
   exact ⟨rfl,_,(Zgk hl (hc.sub k l.ty.width) hn).1 ha,by simp only [R]; exact ⟨_,rfl,(hr.drop k).take _⟩⟩
 · obtain ⟨cv,h1,h2⟩:=hr.get hu
   have hc1:Zdz w b (off + k) [cv]:=fun j z hj=>by
    cases j with
    | zero=>simp at hj; subst hj; exact hc k cv h1
    | succ j=>simp at hj
   have hw:=hl.pos
   exact ⟨rfl,cv,(Zgk hl hc1 (by rw [width_one ha (fun e=>by rw [e] at hw; exact hw rfl)]; rfl)).2 ha cv rfl,h2⟩
theorem atOff_ok:∀ (τ:Ty) {x:D τ} {cs:List Value},RC F w τ x cs -> ∀ {off:Nat} {σ:Ty} {y:D σ},Zhk τ x off σ = some y -> σ ≠ .unit ->
  ∃ d,(cs.drop off).take σ.width = d /\ RC F w σ y d /\ off + σ.width <= cs.length:=by
 intro τ
 have whole:∀ (τ:Ty) {x:D τ} {cs:List Value},RC F w τ x cs -> ∀ {off:Nat} {σ:Ty} {y:D σ},off = 0 -> Zev x = some y ->
   ∃ d,(cs.drop off).take σ.width = d /\ RC F w σ y d /\ off + σ.width <= cs.length:=by
  intro τ x cs h off σ y h0 hy
  obtain ⟨e,rfl⟩:=Zcb hy
  cases e; subst h0
  have:=h.len
  exact ⟨cs,by simp [← this],h,by omega⟩
 induction τ with
 | pr a b iha ihb =>
   intro x cs h off σ y hy hσ
   simp only [Zhk] at hy
   split at hy
   · rename_i h0; exact whole _ h h0.1 hy
   · simp only [RC] at h
     obtain ⟨c,d,rfl,h1,h2⟩:=h
     have l1:=h1.len
     split at hy
     · obtain ⟨e,k1,k2,k3⟩:=iha h1 hy hσ
       refine ⟨e,?_,k2,by simp; omega⟩
       rw [← k1,List.drop_append_of_le_length (by omega),List.take_append_of_le_length (by simp; omega)]
     · rename_i hlt
       obtain ⟨e,k1,k2,k3⟩:=ihb h2 hy hσ
       refine ⟨e,?_,k2,by simp; omega⟩
       rw [← k1,← l1]
       congr 1
       rw [List.drop_append,List.drop_eq_nil_of_le (by omega)]; simp
 | q =>
   intro x cs h off σ y hy hσ
   simp only [Zhk] at hy
   split at hy
   · rename_i h0; exact whole _ h h0.1 hy
   · simp only [RC] at h
     cases h with
     | mk kind field text low high parts a cap c h1 h2 h3 h4 h5 =>
       split at hy
       all_goals first
        | cases hy; done
        | (obtain ⟨e,rfl⟩:=Zcb hy; cases e
           refine ⟨_,rfl,?_,by simp [Ty.width]⟩
           simp [RC,Ty.width,Q.kind,Q.field,Q.text,Q.low,Q.high,Q.parts]
           try exact ⟨a,cap,⟨rfl,rfl⟩,h1,h2,fun ad e hc=>⟨(h3 ad e hc).1,(h3 ad e hc).2,fun i x hx=>⟨c i,h4 i x hx,h5 ad i x e hx⟩⟩⟩)
 | int k=>intro x cs h off σ y hy hσ; simp only [Zhk] at hy; split at hy <;> first | exact whole _ h ‹_› hy | cases hy
 | bool=>intro x cs h off σ y hy hσ; simp only [Zhk] at hy; split at hy <;> first | exact whole _ h ‹_› hy | cases hy
 | str=>intro x cs h off σ y hy hσ; simp only [Zhk] at hy; split at hy <;> first | exact whole _ h ‹_› hy | cases hy
 | err=>intro x cs h off σ y hy hσ; simp only [Zhk] at hy; split at hy <;> first | exact whole _ h ‹_› hy | cases hy
 | unit=>intro x cs h off σ y hy hσ; simp only [Zhk] at hy; split at hy <;> first | exact whole _ h ‹_› hy | cases hy
 | sl e=>intro x cs h off σ y hy hσ; simp only [Zhk] at hy; split at hy <;> first | exact whole _ h ‹_› hy | cases hy
theorem Lay.notUnit {L:List (Nat × TL)} {t:Nat} {l:TL} (h:Lay P L t l):l.ty ≠ .unit:=fun e=>by
 have:=h.pos; rw [e] at this; exact this rfl
theorem typed_load {F':Nat -> Prop} {t:Nat} {l:TL} (hl:Lay P E.L t l) (hF:∀ b,F' b -> F b) {b o:Nat} {τ:Ty} {x:D τ} {cs:List Value} (hr:RC F' w τ x cs) (hc:Zdz w b o cs) {off:Nat} {m:Hp}
  (hf:Zgx τ x off l m (fun v m=>some (v,m)) = some (v,m')):m' = m /\ ∃ cv,(loadVar t ⟨b,o + off,none⟩).run P w = .ok cv w /\ R F B w μ v cv:=by
 unfold Zgx at hf
 split at hf
 · rename_i y hy
   simp only [Option.some.injEq,Prod.mk.injEq] at hf; obtain ⟨rfl,rfl⟩:=hf
   obtain ⟨d,k1,k2,k3⟩:=atOff_ok τ hr hy hl.notUnit
   have k2':RC F w l.ty y d:=k2.mono hF (fun _ _ _ _ e=>e)
   have hc':Zdz w b (o + off) d:=k1 ▸ hc.sub off l.ty.width
   have hn:=k2.len
   refine ⟨rfl,?_⟩
   cases ha:l.ty.agg with
   | true=>exact ⟨_,(Zgk hl hc' hn).1 ha,by simp only [R,ha]; exact ⟨_,rfl,k2'⟩⟩
   | false =>
     have hw:=width_one ha hl.notUnit
     obtain ⟨cv,rfl⟩:∃ cv,d = [cv]:=List.length_eq_one_iff.1 (hn.trans hw)
     exact ⟨cv,(Zgk hl hc' hn).2 ha cv rfl,by simp only [R,ha]; exact k2'⟩
 · cases hf
theorem atL_some {α:Type} {l:List α} {i:Int} {x:α} (h:atL l i = some x):0 <= i /\ l[i.toNat]? = some x:=by
 unfold atL at h; split at h
 · exact ⟨‹_›,h⟩
 · cases h
theorem ep_at (h:Pre P E w0 Ob A B F μ s a w) {b:Nat} {i:Int} {off:Nat} {τ:Ty} {r:List (D τ)} {x:D τ} {cv:Value} (hv:R F B w μ (.ep b i off) cv)
  (hb:s.m.at b = some (.rows τ r) ∨ s.m.at b = some (.fz τ r)) (hx:atL r i = some x) :
  ∃ (ad:Addr) (c:List Value),cv = .pointer (some ⟨ad.block,ad.off + i.toNat * τ.width + off,none⟩) /\ RC F w τ x c /\ Zdz w ad.block (ad.off + i.toNat * τ.width) c:=by
 obtain ⟨h0,hx⟩:=atL_some hx
 simp only [R] at hv
 obtain ⟨o,e1,p,rfl,e2⟩:=hv
 have:∃ q,μ b = some (some q) /\ q.wd = τ.width /\ ∀ ad,q.a = some ad -> Zgu F w τ r ad:=by
  rcases hb with hb | hb
  · obtain ⟨q,e4,k1,k2,k3,k4,k5⟩:=h.mem.box b _ hb; exact ⟨q,e4,k3,fun ad e=>(k5 ad e).2.1⟩
  · obtain ⟨q,e4,k1,k2,k3,k4,k5⟩:=h.mem.box b _ hb; exact ⟨q,e4,k3,fun ad e=>(k5 ad e).2.2⟩
 obtain ⟨q,e4,k3,k5⟩:=this
 rw [e1] at e4; cases e4
 obtain ⟨ad,e5,rfl⟩:=e2 q rfl
 obtain ⟨c,k6,k7⟩:=k5 ad e5 i.toNat x hx
 exact ⟨ad,c,by rw [k3,Nat.add_assoc],k6,k7⟩
def DeepEp (s:St) (v:V):Prop:=∃ b i off,v = .ep b i off /\ ((∃ τ r,s.m.at b = some (.dp τ r)) ∨ ∃ τ r k y o u,s.m.at b = some (.dpx τ r k y o u))
theorem good_load (h:Pre P E w0 Ob A B F μ s a w) {o:Oper} {t:Nat} {x:Operand} (ho:o.op = .load t x) (hnd:¬ DeepEp s (opnd E s x)) (hf:opF E o.op base s = some (v,m')):Good P E.G w0 Ob A B F μ base o a w v m':=by
 rw [ho] at hf; simp only [opF,opK] at hf
 obtain ⟨l,hl0,hf⟩:=Zdy hf
 have hl:=h.env.lay t l hl0
 have hx:=h.ev x
 have fin:∀ {p:Addr} {cv:Value},a.eval x = .pointer (some p) -> (loadVar t p).run P w = .ok cv w -> R F B w μ v cv -> m' = s.m -> Good P E.G w0 Ob A B F μ base o a w v m':=by
  intro p cv e1 e2 e3 e4
  subst e4
  refine Good.same h (cv:=cv) ?_ e3
  unfold execOp; rw [ho]; simp [e1,Instr.loadAt,Instr.sureAddr,e2]
 split at hf
 · rename_i b off he
   rw [he] at hx
   split at hf
   · rename_i cs hb
     obtain ⟨q,e4,ad,vs,k1,k2,k3,k4,k5⟩:=h.mem.box b _ hb
     simp only [R] at hx
     obtain ⟨o',e1,p,e2,e3⟩:=hx
     rw [e1] at e4; cases e4
     obtain ⟨ad',e5,rfl⟩:=e3 q rfl
     rw [k1] at e5; cases e5
     obtain ⟨rfl,cv,e6,e7⟩:=cell_load hl k3 k4 hf
     exact fin e2 e6 e7 rfl
   · cases hf
 · rename_i cs he
   rw [he] at hx
   simp only [R] at hx
   obtain ⟨ad,vs,e1,e2,e3,e4,e5⟩:=hx
   obtain ⟨rfl,cv,e6,e7⟩:=cell_load hl e4 e5 hf
   refine fin (p:=ad) e1 ?_ e7 rfl
   cases ad; simp at e2; subst e2; simpa using e6
 · rename_i τ y he
   rw [he] at hx
   simp only [R] at hx
   obtain ⟨ad,cs,e1,e2,e3,e4,e5⟩:=hx
   obtain ⟨rfl,cv,e6,e7⟩:=typed_load (B:=B) (μ:=μ) hl (fun _ x=>x) e4 e5 hf
   refine fin (p:=ad) e1 ?_ e7 rfl
   cases ad; simp at e2; subst e2; simpa using e6
 · rename_i b i off he
   rw [he] at hx
   split at hf
   · rename_i τ r hb
     obtain ⟨y,hy,hf⟩:=Zd0 hf
     obtain ⟨ad,c,k1,k2,k3⟩:=ep_at h hx (.inl hb) hy
     obtain ⟨rfl,cv,e6,e7⟩:=typed_load (B:=B) (μ:=μ) hl (fun _ x=>x) k2 k3 hf
     exact fin k1 e6 e7 rfl
   · rename_i τ r hb
     obtain ⟨y,hy,hf⟩:=Zd0 hf
     obtain ⟨ad,c,k1,k2,k3⟩:=ep_at h hx (.inr hb) hy
     obtain ⟨rfl,cv,e6,e7⟩:=typed_load (B:=B) (μ:=μ) hl (fun _ x=>x) k2 k3 hf
     exact fin k1 e6 e7 rfl
   · rename_i τ r hb
     exact absurd ⟨b,i,off,he,.inl ⟨τ,r,hb⟩⟩ hnd
   · rename_i τ r k y o u hb
     exact absurd ⟨b,i,off,he,.inr ⟨τ,r,k,y,o,u,hb⟩⟩ hnd
   · cases hf
 · cases hf
end
end Go.E
namespace Go.E
open Go Go.RowKit
theorem Zho:∀ (a b:List UInt8),(Op.bytesLess a b || a == b) = !Op.bytesLess b a
 | [],[]=>by simp [Op.bytesLess]
 | [],_ :: _=>by simp [Op.bytesLess]
 | _ :: _,[]=>by simp [Op.bytesLess]
 | x :: a,y :: b=>by
   have ih:=Zho a b
   simp only [Op.bytesLess]
   rcases Nat.lt_trichotomy x.toNat y.toNat with h | h | h
   · have h1:x < y:=UInt8.lt_iff_toNat_lt.2 h
     have h2:¬ y < x:=fun e=>by have:=UInt8.lt_iff_toNat_lt.1 e; omega
     have h3:¬ y = x:=fun e=>by subst e; omega
     simp [h1,h2,h3]
   · have h1:x = y:=UInt8.toNat_inj.1 h
     subst h1
     simpa using ih
   · have h1:y < x:=UInt8.lt_iff_toNat_lt.2 h
     have h2:¬ x < y:=fun e=>by have:=UInt8.lt_iff_toNat_lt.1 e; omega
     have h3:¬ x = y:=fun e=>by subst e; omega
     simp [h1,h2,h3]
theorem eqS_eq (a b:ByteArray):(a.toList == b.toList) = eqS a b:=by
 unfold eqS
 by_cases h:a = b
 · simp [h]
 · have:a.toList ≠ b.toList:=fun e=>h (by
     rw [ByteArray.toList_eq,ByteArray.toList_eq] at e
     cases a; cases b; simp at e; simp [e])
   simp [h,this]
section
variable {P:Program} {E:Env} {w0:World} {Ob A B F:Nat -> Prop} {μ:Mu} {w:World} {base:Nat} {s:St} {a:Act} {v:V} {m':Hp}
theorem good_nilCheck (h:Pre P E w0 Ob A B F μ s a w) {o:Oper} {x:Operand} (ho:o.op = .nilCheck x) (hf:opF E o.op base s = some (v,m')):Good P E.G w0 Ob A B F μ base o a w v m':=by
 rw [ho] at hf; simp only [opF,opK] at hf
 have hx:=h.ev x
 have fin:(∃ p,a.eval x = .pointer (some p)) -> v = opnd E s x -> m' = s.m -> Good P E.G w0 Ob A B F μ base o a w v m':=by
  rintro ⟨p,e1⟩ rfl rfl
  exact Good.same h (cv:=a.eval x) (by unfold execOp; rw [ho]; simp [e1]) hx
 split at hf
 · rename_i b off he; simp only [Option.some.injEq,Prod.mk.injEq] at hf
   rw [he] at hx; simp only [R] at hx; obtain ⟨_,_,p,e,_⟩:=hx
   exact fin ⟨p,e⟩ (by rw [he]; exact hf.1.symm) hf.2.symm
 · rename_i cs he; simp only [Option.some.injEq,Prod.mk.injEq] at hf
   rw [he] at hx; simp only [R] at hx; obtain ⟨p,_,e,_⟩:=hx
   exact fin ⟨p,e⟩ (by rw [he]; exact hf.1.symm) hf.2.symm
 · rename_i τ y he; simp only [Option.some.injEq,Prod.mk.injEq] at hf
   rw [he] at hx; simp only [R] at hx; obtain ⟨p,_,e,_⟩:=hx
   exact fin ⟨p,e⟩ (by rw [he]; exact hf.1.symm) hf.2.symm
 · rename_i b i off he; simp only [Option.some.injEq,Prod.mk.injEq] at hf
   rw [he] at hx; simp only [R] at hx; obtain ⟨_,_,p,e,_⟩:=hx
   exact fin ⟨p,e⟩ (by rw [he]; exact hf.1.symm) hf.2.symm
 · rename_i f caps he; simp only [Option.some.injEq,Prod.mk.injEq] at hf
   obtain ⟨rfl,rfl⟩:=hf
   rw [he] at hx; have hx':=hx; simp only [R] at hx'; obtain ⟨c,e,_⟩:=hx'
   exact Good.same h (cv:=a.eval x) (by unfold execOp; rw [ho]; simp [e]) hx
 · cases hf
theorem run_binI {op:BinOp} {k:IntKind} {x y:Int} {t:Nat} {v:V} (hf:binI op k x y = some v):∃ cv,(binOp op t (.int k x) (.int k y)).run P w = .ok cv w /\ R F B w μ v cv:=by
 cases op <;> simp only [binI,Option.some.injEq] at hf <;> first | (cases hf; done) | subst hf
 · exact ⟨_,by simp [binOp,Op.intArith]; rfl,Zib _ _⟩
 · exact ⟨_,by simp [binOp,Op.intArith]; rfl,Zib _ _⟩
 · exact ⟨_,by simp [binOp,Op.intArith]; rfl,Zib _ _⟩
 · exact ⟨_,by simp [binOp,Op.intBits]; rfl,Zib _ _⟩
 · exact ⟨.bool (eqI x y),by simp [binOp,Op.intCmp,eqI,BEq.beq],Zfc _⟩
 · exact ⟨.bool (notB (eqI x y)),by simp [binOp,Op.intCmp,eqI,notB,bne,BEq.beq],Zfc _⟩
 · exact ⟨.bool (ltI x y),by simp [binOp,Op.intCmp,ltI],Zfc _⟩
 · exact ⟨.bool (leI x y),by simp [binOp,Op.intCmp,leI],Zfc _⟩
 · exact ⟨.bool (ltI y x),by simp [binOp,Op.intCmp,ltI],Zfc _⟩
 · exact ⟨.bool (leI y x),by simp [binOp,Op.intCmp,leI],Zfc _⟩
theorem run_binS {op:BinOp} {x y:ByteArray} {t:Nat} {v:V} (hf:binS op x y = some v):∃ cv,(binOp op t (.string x) (.string y)).run P w = .ok cv w /\ R F B w μ v cv:=by
 have e:=eqS_eq x y
 have tot:(ltS x y || eqS x y) = !(ltS y x):=by rw [← e]; exact Zho _ _
 cases op <;> simp only [binS,Option.some.injEq] at hf <;> first | (cases hf; done) | subst hf
 · exact ⟨.bool (eqS x y),by simp [binOp,Op.stringOp,e],Zfc _⟩
 · exact ⟨.bool (notB (eqS x y)),by simp [binOp,Op.stringOp,e,notB],Zfc _⟩
 · exact ⟨.bool (ltS x y),by simp [binOp,Op.stringOp,ltS],Zfc _⟩
 · refine ⟨.bool (notB (ltS y x)),?_,Zfc _⟩
   have:(Op.bytesLess x.toList y.toList || (x.toList == y.toList)) = notB (ltS y x):=by rw [e]; exact tot
   simp only [binOp,Op.stringOp,this,Sem.run_pure]
 · refine ⟨.bool (ltS y x),?_,Zfc _⟩
   have:(!(Op.bytesLess x.toList y.toList || (x.toList == y.toList))) = ltS y x:=by rw [e]; exact (congrArg not tot).trans (by simp)
   simp only [binOp,Op.stringOp,this,Sem.run_pure]
 · exact ⟨.bool (notB (ltS x y)),by simp [binOp,Op.stringOp,ltS,notB],Zfc _⟩
theorem Ze8 {ρ:Operand -> Value} {o:Oper} {op:BinOp} {t u:Nat} {x y:Operand} (ho:o.op = .binOp op t x y u) {cv:Value}
  (hg:(eqGuard op t x y (ρ x) (ρ y)).run P w = .ok () w) (hb:(binOp op t (ρ x) (ρ y)).run P w = .ok cv w):(execOp ρ o).run P w = .ok (.value cv) w:=by
 unfold execOp; rw [ho]; simp [hg,hb]
theorem Ziz {op:BinOp} {t:Nat} {x y:Operand} {a b:Value} (h1:∀ cs,a ≠ .agg cs) (h2:a = .nilIface -> b = .nilIface -> ∃ c,y = .const c):(eqGuard op t x y a b).run P w = .ok () w:=by
 cases op
 case eql=>cases a <;> cases b <;> first | rfl | (exact absurd rfl (h1 _)) | (obtain ⟨c,rfl⟩:=h2 rfl rfl; simp [eqGuard])
 case neq=>cases a <;> cases b <;> first | rfl | (exact absurd rfl (h1 _)) | (obtain ⟨c,rfl⟩:=h2 rfl rfl; simp [eqGuard])
 all_goals rfl
theorem Zhd {E:Env} (hE:EnvOk P E) {u off:Nat} {l:TL} (hl:look E.L u = some l) (hk:l.ty.agg = false) {xs:Array Value} {cv:Value} (hx:xs.toList[off]? = some cv):(part u xs off).run P w = .ok cv w:=by
 have h:=hE.lay u l hl
 have:xs[off]? = some cv:=by simpa using hx
 simp [part,h.run_agg,hk,this]
theorem run_eqB {E:Env} (hE:EnvOk P E) {u:Nat} {l:TL} (hl:look E.L u = some l) {x y:V} {cx cy:Value} (hx:R F B w μ x cx) (hy:R F B w μ y cy)
  {c:Bool} (he:eqB l.k x y = some c) (d:Nat):(Op.equalIn (d + 1) u cx cy).run P w = .ok c w:=by
 have h:=(hE.lay u l hl).kind
 unfold eqB at he
 split at he
 · rename_i hk; rw [hk] at h
   have e1:=R_bool hx; have e2:=R_bool hy; subst e1 e2
   cases he
   rw [run_equalIn_bool' w d u _ _ h.1]; rfl
 · rename_i hk; rw [hk] at h
   split at he
   · rename_i e; subst e
     have e1:=Ziu hx; have e2:=Ziu hy; subst e1 e2
     cases he
     rw [run_equalIn_int w d u _ _ _ _ h.1]; simp [eqI,BEq.beq]
   · cases he
 · rename_i hk; rw [hk] at h
   have e1:=R_str hx; have e2:=R_str hy; subst e1 e2
   cases he
   rw [run_equalIn_string w d u _ _ h.1,eqS_eq]
 · cases he
def TK.basic:TK -> Bool
 | .int _=>true
 | .bool=>true
 | .str=>true
 | _=>false
theorem eqB_agg {k:TK} {x y:V} {c:Bool} (he:eqB k x y = some c):k.basic = true:=by
 unfold eqB at he; split at he <;> first | rfl | cases he
theorem Lay.noAgg {L:List (Nat × TL)} {t:Nat} {l:TL} (h:Lay P L t l) (hk:l.k.basic = true):l.ty.agg = false:=by
 have:=h.kind
 cases e:l.k <;> rw [e] at this hk <;> simp [TK.basic] at hk <;> rw [this.2] <;> rfl
theorem run_eqL {E:Env} (hE:EnvOk P E) (d:Nat) {xs ys:Array Value}:∀ (fs:List Field) (o:Nat) (x y:List V) (cx cy:List Value),(∀ j f,fs[j]? = some f -> f.offset = o + j) -> (∀ f ∈ fs,(f.name == "_") = false) ->
  (∀ j v,cx[j]? = some v -> xs.toList[o + j]? = some v) -> (∀ j v,cy[j]? = some v -> ys.toList[o + j]? = some v) -> RL F B w μ x cx -> RL F B w μ y cy ->
  ∀ c,eqL E.L (fs.map (·.type)) x y = some c -> (Op.eqFields (d + 1) xs ys fs).run P w = .ok c w
 | [],o,x,y,cx,cy,_,_,_,_,_,_,c,he=>by simp [eqL] at he
 | [f],o,[a],[b],[ca],[cb],ho,hn,h1,h2,hx,hy,c,he=>by
   simp only [List.map_cons,List.map_nil,eqL] at he
   split at he
   · rename_i l hl
     simp only [RL,and_true] at hx hy
     have hne:f.name ≠ "_":=by have:=hn f (by simp); simpa using this
     have hof:f.offset = o:=by simpa using ho 0 f rfl
     have na:=(hE.lay _ l hl).noAgg (eqB_agg he)
     have p1:=Zhd (w:=w) hE hl na (h1 0 ca (by simp))
     have p2:=Zhd (w:=w) hE hl na (h2 0 cb (by simp))
     simp only [Nat.add_zero] at p1 p2
     have q:=run_eqB hE hl hx hy he d
     rw [Op.eqFields,if_pos hne]
     simp only [Sem.run_bind,hof,p1,p2,q,Result.andThen_ok]
     cases c <;> simp [Op.eqFields]
   · cases he
 | f :: g :: fs,o,a :: a' :: x,b :: b' :: y,ca :: ca' :: cx,cb :: cb' :: cy,ho,hn,h1,h2,hx,hy,c,he=>by
   simp only [List.map_cons,eqL] at he
   split at he
   · rename_i l hl
     split at he
     · rename_i c1 c2 e1 e2
       cases he
       simp only [RL] at hx hy
       have hne:f.name ≠ "_":=by have:=hn f (by simp); simpa using this
       have hof:f.offset = o:=by simpa using ho 0 f rfl
       have na:=(hE.lay _ l hl).noAgg (eqB_agg e1)
       have p1:=Zhd (w:=w) hE hl na (h1 0 ca (by simp))
       have p2:=Zhd (w:=w) hE hl na (h2 0 cb (by simp))
       simp only [Nat.add_zero] at p1 p2
       have q:=run_eqB hE hl hx.1 hy.1 e1 d
       have ih:=run_eqL hE d (xs:=xs) (ys:=ys) (g :: fs) (o + 1) (a' :: x) (b' :: y) (ca' :: cx) (cb' :: cy)
        (fun j k hj=>by have:=ho (j + 1) k (by simpa using hj); omega)
        (fun k hk=>hn k (List.mem_cons_of_mem _ hk))
        (fun j v hj=>by have:=h1 (j + 1) v (by simpa using hj); rwa [show o + (j + 1) = o + 1 + j by omega] at this)
        (fun j v hj=>by have:=h2 (j + 1) v (by simpa using hj); rwa [show o + (j + 1) = o + 1 + j by omega] at this)
        (by simp only [RL]; exact hx.2) (by simp only [RL]; exact hy.2) c2 (by simpa using e2)
       rw [Op.eqFields,if_pos hne]
       simp only [Sem.run_bind,hof,p1,p2,q,Result.andThen_ok]
       cases c1
       · simp [andB]
       · simpa [andB] using ih
     · cases he
   · cases he
 | [f],o,[],y,cx,cy,_,_,_,_,_,_,c,he=>by simp [eqL] at he
 | [f],o,[a],[],cx,cy,_,_,_,_,_,_,c,he=>by simp [eqL] at he
 | [f],o,[a],[b],[],cy,_,_,_,_,hx,_,c,he=>by simp [RL] at hx
 | [f],o,[a],[b],[_],[],_,_,_,_,_,hy,c,he=>by simp [RL] at hy
 | [f],o,[a],[b],_ :: _ :: _,cy,_,_,_,_,hx,_,c,he=>by simp [RL] at hx
 | [f],o,[a],[b],[_],_ :: _ :: _,_,_,_,_,_,hy,c,he=>by simp [RL] at hy
 | [f],o,a :: a' :: x,y,cx,cy,_,_,_,_,_,_,c,he=>by
   cases y <;> simp [eqL] at he; (repeat (split at he <;> try cases he)) <;> simp_all
 | [f],o,[a],b :: b' :: y,cx,cy,_,_,_,_,_,_,c,he=>by
   simp [eqL] at he; (repeat (split at he <;> try cases he)) <;> simp_all
 | f :: g :: fs,o,[],y,cx,cy,_,_,_,_,_,_,c,he=>by simp [eqL] at he
 | f :: g :: fs,o,[a],y,cx,cy,_,_,_,_,_,_,c,he=>by
   cases y <;> simp [eqL] at he; (repeat (split at he <;> try cases he)) <;> simp_all
 | f :: g :: fs,o,a :: a' :: x,[],cx,cy,_,_,_,_,_,_,c,he=>by simp [eqL] at he
 | f :: g :: fs,o,a :: a' :: x,[b],cx,cy,_,_,_,_,_,_,c,he=>by
   simp [eqL] at he; (repeat (split at he <;> try cases he)) <;> simp_all
 | f :: g :: fs,o,a :: a' :: x,b :: b' :: y,[],cy,_,_,_,_,hx,_,c,he=>by simp [RL] at hx
 | f :: g :: fs,o,a :: a' :: x,b :: b' :: y,[_],cy,_,_,_,_,hx,_,c,he=>by simp [RL] at hx
 | f :: g :: fs,o,a :: a' :: x,b :: b' :: y,_ :: _ :: _,[],_,_,_,_,_,hy,c,he=>by simp [RL] at hy
 | f :: g :: fs,o,a :: a' :: x,b :: b' :: y,_ :: _ :: _,[_],_,_,_,_,_,hy,c,he=>by simp [RL] at hy
end
end Go.E
namespace Go.E
open Go Go.RowKit
section
variable {P:Program} {E:Env} {w0:World} {Ob A B F:Nat -> Prop} {μ:Mu} {w:World} {base:Nat} {s:St} {a:Act} {v:V} {m':Hp}
theorem Zbp {v v':V} {m m':Hp} (h:some (v,m) = some (v',m')):v = v' /\ m = m':=by cases h; exact ⟨rfl,rfl⟩
theorem R_err {b:Bool} {cv:Value} (h:R F B w μ (.val .err b) cv):(b = false -> cv = .nilIface) /\ (b = true -> ∃ t x,cv = .iface t x):=by
 simp only [R,Ty.agg,RC] at h
 obtain ⟨v,e,h1,h2⟩:=h
 cases e; exact ⟨h1,h2⟩
theorem agg_of {x:V} {cx:Value} (hx:R F B w μ x cx) (h:x.aggy = true):∃ xs,cx = .agg xs /\ RL F B w μ x.cells xs.toList:=by
 cases x <;> simp [V.aggy] at h
 · rename_i τ y
   have k:=cells_ok hx (by simp)
   simp only [R,h] at hx
   obtain ⟨cs,rfl,_⟩:=hx
   exact ⟨cs,rfl,k⟩
 · have k:=cells_ok hx (by simp)
   simp only [R] at hx
   obtain ⟨cs,rfl,_⟩:=hx
   exact ⟨cs,rfl,k⟩
theorem eqIn_nil_nil (d:Nat) {t:Nat} {ms} (hu:P.underlying t = some (.interface ms)):(Op.equalIn (d + 1) t .nilIface .nilIface).run P w = .ok true w:=by
 simp only [Op.equalIn,Sem.run_bind,run_underlying hu,Result.andThen_ok,Sem.run_pure]
theorem eqIn_iface_nil (d:Nat) {t t':Nat} {y:Value} {ms} (hu:P.underlying t = some (.interface ms)):(Op.equalIn (d + 1) t (.iface t' y) .nilIface).run P w = .ok false w:=by
 simp only [Op.equalIn,Sem.run_bind,run_underlying hu,Result.andThen_ok,Sem.run_pure]
theorem run_nil_nil {t:Nat} {ms} (hu:P.underlying t = some (.interface ms)):(Op.equal t .nilIface .nilIface).run P w = .ok true w:=eqIn_nil_nil 9999 hu
theorem run_iface_nil {t t':Nat} {y:Value} {ms} (hu:P.underlying t = some (.interface ms)):(Op.equal t (.iface t' y) .nilIface).run P w = .ok false w:=eqIn_iface_nil 9999 hu
set_option maxHeartbeats 2000000 in
theorem good_binOp (h:Pre P E w0 Ob A B F μ s a w) {o:Oper} {op:BinOp} {t u:Nat} {x y:Operand} (ho:o.op = .binOp op t x y u) (hf:opF E o.op base s = some (v,m')):Good P E.G w0 Ob A B F μ base o a w v m':=by
 rw [ho] at hf; simp only [opF,opK] at hf
 have hx:=h.ev x
 have hy:=h.ev y
 split at hf
 · rename_i k p k' q e1 e2
   rw [e1] at hx; rw [e2] at hy
   have ex:=Ziu hx; have ey:=Ziu hy
   split at hf
   · rename_i hk; subst hk
     have g:∀ op,(eqGuard op t x y (a.eval x) (a.eval y)).run P w = .ok () w:=fun op=>Ziz (fun cs e=>by rw [ex] at e; cases e) (fun e=>by rw [ex] at e; cases e)
     split at hf
     · obtain ⟨hb,hf⟩:=(Zfj hf).elim (fun ⟨_,e⟩=>by cases e) id
       obtain ⟨rfl,rfl⟩:=Zbp hf
       refine Good.same h (cv:=.int k (divI k p q)) (Ze8 ho (g _) ?_) (Zib _ _)
       have:q ≠ 0:=by simpa [eqI] using hb
       simp [ex,ey,binOp,Op.intDiv,this,divI]
     · obtain ⟨hb,hf⟩:=(Zfj hf).elim (fun ⟨_,e⟩=>by cases e) id
       obtain ⟨rfl,rfl⟩:=Zbp hf
       refine Good.same h (cv:=.int k (modI p q)) (Ze8 ho (g _) ?_) (Zib _ _)
       have:q ≠ 0:=by simpa [eqI] using hb
       simp [ex,ey,binOp,Op.intDiv,this,modI]
     · split at hf
       · rename_i r hr
         obtain ⟨rfl,rfl⟩:=Zbp hf
         obtain ⟨cv,k1,k2⟩:=run_binI (P:=P) (F:=F) (B:=B) (μ:=μ) (w:=w) (t:=t) hr
         exact Good.same h (Ze8 ho (g _) (by rw [ex,ey]; exact k1)) k2
       · cases hf
   · cases hf
 · rename_i p q e1 e2
   rw [e1] at hx; rw [e2] at hy
   have ex:=R_str hx; have ey:=R_str hy
   have g:∀ op,(eqGuard op t x y (a.eval x) (a.eval y)).run P w = .ok () w:=fun op=>Ziz (fun cs e=>by rw [ex] at e; cases e) (fun e=>by rw [ex] at e; cases e)
   split at hf
   · obtain ⟨hb,hf⟩:=Zc4 hf
     obtain ⟨rfl,rfl⟩:=Zbp hf
     refine Good.same h (cv:=.string (catS p q)) (Ze8 ho (g _) ?_) (mk_str _)
     have hb:p.size + q.size <= Zfa:=by simpa [roomS] using hb
     unfold Zfa at hb
     have:¬ (((p.size + q.size:Nat):Int) > IntKind.i64.max):=by simp [IntKind.max,IntKind.bits,IntKind.signed]; omega
     simp only [ex,ey,binOp,Op.stringOp,if_neg this,catS,Sem.run_pure]
   · split at hf
     · rename_i r hr
       obtain ⟨rfl,rfl⟩:=Zbp hf
       obtain ⟨cv,k1,k2⟩:=run_binS (P:=P) (F:=F) (B:=B) (μ:=μ) (w:=w) (t:=t) hr
       exact Good.same h (Ze8 ho (g _) (by rw [ex,ey]; exact k1)) k2
     · cases hf
 · rename_i p q e1 e2
   rw [e1] at hx; rw [e2] at hy
   have ex:=R_bool hx; have ey:=R_bool hy
   have g:∀ op,(eqGuard op t x y (a.eval x) (a.eval y)).run P w = .ok () w:=fun op=>Ziz (fun cs e=>by rw [ex] at e; cases e) (fun e=>by rw [ex] at e; cases e)
   obtain ⟨l,hl,hf⟩:=Zdy hf
   have hk:=(h.env.lay t l hl).kind
   split at hf
   · rename_i e; rw [e] at hk
     have:=run_equal_bool (P:=P) w t p q hk.1
     split at hf
     · obtain ⟨rfl,rfl⟩:=Zbp hf
       refine Good.same h (cv:=.bool (eqBo p q)) (Ze8 ho (g _) ?_) (Zfc _)
       rw [ex,ey]; simp only [binOp,Sem.run_bind,this,Result.andThen_ok,Sem.run_pure]; rfl
     · obtain ⟨rfl,rfl⟩:=Zbp hf
       refine Good.same h (cv:=.bool (notB (eqBo p q))) (Ze8 ho (g _) ?_) (Zfc _)
       rw [ex,ey]; simp only [binOp,Sem.run_bind,this,Result.andThen_ok,Sem.run_pure]; rfl
     · cases hf
   · cases hf
 · rename_i p q e1 e2
   rw [e1] at hx
   have ex:=R_err hx
   obtain ⟨l,hl,hf⟩:=Zdy hf
   have hk:=(h.env.lay t l hl).kind
   have key:∀ (ms) ,P.underlying t = some (.interface ms) -> (Op.equal t (a.eval x) .nilIface).run P w = .ok (notB p) w:=by
    intro ms hu
    cases hp:(p:Bool) with
    | false=>rw [ex.1 hp]; exact run_nil_nil hu
    | true=>obtain ⟨t',y',e⟩:=ex.2 hp; rw [e]; exact run_iface_nil hu
   have hne:∀ cs,a.eval x ≠ .agg cs:=fun cs e=>by
    cases hp:(p:Bool) with
    | false=>rw [ex.1 hp] at e; cases e
    | true=>obtain ⟨t',y',e'⟩:=ex.2 hp; rw [e'] at e; cases e
   have hb:∀ op,(eqGuard op t x (.const .nilIface) (a.eval x) .nilIface).run P w = .ok () w:=fun op=>Ziz hne (fun _ _=>⟨_,rfl⟩)
   split at hf
   · rename_i e; rw [e] at hk
     obtain ⟨⟨ms,hu⟩,_⟩:=hk
     have k:=key ms hu
     split at hf
     · split at hf
       · obtain ⟨rfl,rfl⟩:=Zbp hf
         refine Good.same h (cv:=.bool (notB p)) (Ze8 ho (hb _) ?_) (Zfc _)
         cases hp:(p:Bool) with
         | false =>
           rw [hp] at k; rw [ex.1 hp] at k ⊢
           simp only [Act.eval,binOp,Sem.run_bind,k,Result.andThen_ok,Sem.run_pure]
         | true =>
           rw [hp] at k; obtain ⟨t',y',e⟩:=ex.2 hp; rw [e] at k ⊢
           simp only [Act.eval,binOp,Sem.run_bind,k,Result.andThen_ok,Sem.run_pure]
       · obtain ⟨rfl,rfl⟩:=Zbp hf
         refine Good.same h (cv:=.bool p) (Ze8 ho (hb _) ?_) (Zfc _)
         cases hp:(p:Bool) with
         | false =>
           rw [hp] at k; rw [ex.1 hp] at k ⊢
           simp only [Act.eval,binOp,Sem.run_bind,k,Result.andThen_ok,Sem.run_pure,notB]; rfl
         | true =>
           rw [hp] at k; obtain ⟨t',y',e⟩:=ex.2 hp; rw [e] at k ⊢
           simp only [Act.eval,binOp,Sem.run_bind,k,Result.andThen_ok,Sem.run_pure,notB]; rfl
       · cases hf
     · cases hf
   · cases hf
 · rename_i p q _ _ _ _
   obtain ⟨l,hl,hf⟩:=Zdy hf
   have hk:=(h.env.lay t l hl).kind
   split at hf
   · rename_i fs e; rw [e] at hk
     obtain ⟨fields,hu,rfl,hfl,hst,hgt⟩:=hk
     split at hf
     · rename_i hse
       simp only [structEq,Bool.and_eq_true,decide_eq_true_eq] at hse
       obtain ⟨⟨hr,hA⟩,hB⟩:=hse
       obtain ⟨xs,ex,kx⟩:=agg_of hx hA
       obtain ⟨ys,ey,ky⟩:=agg_of hy hB
       have hof:∀ j f,fields.toList[j]? = some f -> f.offset = 0 + j:=fun j f hj=>by
        have h1:=congrArg (fun l=>l[j]?) hr
        simp only [List.map_map,List.length_map,List.getElem?_map,hj,Option.map_some,Function.comp] at h1
        rw [List.getElem?_range (List.getElem?_eq_some_iff.1 hj).1] at h1
        simpa using h1
       have run:∀ c,eqL E.L ((fields.toList.map fun f=>(f.offset,f.type)).map (·.2)) (opnd E s x).cells (opnd E s y).cells = some c -> (Op.equalIn 10000 t (.agg xs) (.agg ys)).run P w = .ok c w:=fun c hc=>by
        have hff:P.fieldsOf t = fields:=by simp [Program.fieldsOf,hu]
        rw [run_equalIn_struct (P:=P) w 9999 t xs ys (by rw [hff]; exact hu) hst,hff]
        exact run_eqL h.env 9998 fields.toList 0 _ _ _ _ hof (fun f hf=>(hfl f hf).1) (fun j v hj=>by simpa using hj) (fun j v hj=>by simpa using hj) kx ky c
         (by rw [List.map_map] at hc; exact hc)
       split at hf
       rotate_left
       · cases hf
       rename_i c hc
       split at hf
       · obtain ⟨rfl,rfl⟩:=Zbp hf
         refine Good.same h (cv:=.bool c) (Ze8 ho (by rw [ex,ey]; exact run_eqGuard_agg w _ _ _ _ _ _ hgt) ?_) (Zfc _)
         rw [ex,ey,run_eql_struct,run c hc]; rfl
       · obtain ⟨rfl,rfl⟩:=Zbp hf
         refine Good.same h (cv:=.bool (notB c)) (Ze8 ho (by rw [ex,ey]; exact run_eqGuard_agg w _ _ _ _ _ _ hgt) ?_) (Zfc _)
         rw [ex,ey,run_neq_struct,run c hc]; rfl
       · cases hf
     · cases hf
   · cases hf
theorem good_unOp (h:Pre P E w0 Ob A B F μ s a w) {o:Oper} {op:UnOp} {t:Nat} {x:Operand} (ho:o.op = .unOp op t x) (hf:opF E o.op base s = some (v,m')):Good P E.G w0 Ob A B F μ base o a w v m':=by
 rw [ho] at hf; simp only [opF,opK] at hf
 have hx:=h.ev x
 split at hf
 · rename_i b e
   rw [e] at hx; have ex:=R_bool hx
   obtain ⟨rfl,rfl⟩:=Zbp hf
   exact Good.same h (cv:=.bool (notB b)) (by unfold execOp; rw [ho]; simp [ex,Op.unary,notB]) (Zfc _)
 · rename_i k n e
   rw [e] at hx; have ex:=Ziu hx
   obtain ⟨rfl,rfl⟩:=Zbp hf
   exact Good.same h (cv:=.int k (negI k n)) (by unfold execOp; rw [ho]; simp [ex,Op.unary,Op.intArith,negI]) (Zib _ _)
 · cases hf
theorem good_extract (h:Pre P E w0 Ob A B F μ s a w) {o:Oper} {x:Operand} {i:Nat} (ho:o.op = .extract x i) (hf:opF E o.op base s = some (v,m')):Good P E.G w0 Ob A B F μ base o a w v m':=by
 rw [ho] at hf; simp only [opF,opK] at hf
 have hx:=h.ev x
 split at hf
 · rename_i vs e
   rw [e] at hx
   simp only [R] at hx
   obtain ⟨cs,ex,k⟩:=hx
   split at hf
   · rename_i u hu
     obtain ⟨rfl,rfl⟩:=Zbp hf
     obtain ⟨cv,k1,k2⟩:=k.get hu
     exact Good.same h (cv:=cv) (by unfold execOp; rw [ho]; have k1':cs[i]? = some cv:=by simpa using k1
                                    simp [ex,Instr.extract,k1']) k2
   · cases hf
 · cases hf
theorem RL_map (hev:∀ x,R F B w μ (opnd E s x) (a.eval x)):∀ (l:List Operand),RL F B w μ (l.map (opnd E s)) (l.map a.eval)
 | []=>by simp [RL]
 | x :: r=>by simp only [List.map_cons,RL]; exact ⟨hev x,RL_map hev r⟩
theorem good_makeFunc (h:Pre P E w0 Ob A B F μ s a w) {o:Oper} {f:Nat} {x y:Array Operand} (ho:o.op = .makeFunc (.func f) x y) (hf:opF E o.op base s = some (v,m')):Good P E.G w0 Ob A B F μ base o a w v m':=by
 rw [ho] at hf; simp only [opF,opK] at hf
 split at hf
 · rename_i hx
   have hx':x = #[]:=by cases x; simpa using hx
   subst hx'
   obtain ⟨rfl,rfl⟩:=Zbp hf
   refine Good.same h (cv:=.func (.func f) #[] (y.map a.eval)) (by unfold execOp; rw [ho]; simp [Instr.makeFunc]) ?_
   simp only [R]
   exact ⟨_,rfl,by simpa using RL_map h.ev y.toList⟩
 · cases hf
end
end Go.E
namespace Go.E
open Go Go.RowKit
section
variable {P:Program} {E:Env} {w0:World} {Ob A B F:Nat -> Prop} {μ:Mu} {w:World} {base:Nat} {s:St} {a:Act} {v:V} {m':Hp}
theorem run_fieldPlace {f:Field} {l:TL} (hE:EnvOk P E) (hl:look E.L f.type = some l) (p:Addr):(fieldPlace p f).run P w = .ok (p.add f.offset) w:=by
 have h:=hE.lay _ l hl
 simp [fieldPlace,h.run_size,h.pos]
theorem field_of {t i off u:Nat} {l lu:TL} {fs:List (Nat × TypeId)} (hE:EnvOk P E) (hl:look E.L t = some l) (hk:l.k = .st fs) (hi:fs[i]? = some (off,u)) :
  ∃ fields f,P.underlying t = some (.struct fields) /\ fields[i]? = some f /\ f.offset = off /\ f.type = u /\ off + (match look E.L u with | some lu=>lu.ty.width | none=>0) <= l.ty.width:=by
 have h:=(hE.lay t l hl).kind
 rw [hk] at h
 obtain ⟨fields,hu,rfl,hf,_⟩:=h
 simp only [List.getElem?_map,Option.map_eq_some_iff] at hi
 obtain ⟨f,h1,h2⟩:=hi
 cases h2
 obtain ⟨_,lu,h3,h4⟩:=hf f (List.mem_of_getElem? h1)
 exact ⟨fields,f,hu,by simpa using h1,rfl,rfl,by rw [h3]; exact h4⟩
theorem Zgo {o:Oper} {t i:Nat} {x:Operand} (ho:o.op = .fieldAddr t x i) (hE:EnvOk P E) {fields:Array Field} {f:Field} {lu:TL} (hu:P.underlying t = some (.struct fields)) (hf:fields[i]? = some f)
  (hl:look E.L f.type = some lu) {p:Addr} (hx:a.eval x = .pointer (some p)):(execOp a.eval o).run P w = .ok (.value (.pointer (some (p.add f.offset)))) w:=by
 unfold execOp; rw [ho]
 simp [hx,Instr.fieldAt,Instr.sureAddr,run_underlying hu,hf,run_fieldPlace hE hl]
theorem good_fieldAddr (h:Pre P E w0 Ob A B F μ s a w) {o:Oper} {t i:Nat} {x:Operand} (ho:o.op = .fieldAddr t x i) (hf:opF E o.op base s = some (v,m')):Good P E.G w0 Ob A B F μ base o a w v m':=by
 rw [ho] at hf; simp only [opF,opK] at hf
 obtain ⟨l,fs,off,u,lu,hl,hk,hi,hlu,hf⟩:=wF_some hf
 obtain ⟨fields,f,hu,hfi,rfl,rfl,_⟩:=field_of (lu:=lu) h.env hl hk hi
 have hx:=h.ev x
 split at hf
 · rename_i b o' e
   rw [e] at hx; simp only [R] at hx
   obtain ⟨q,e1,p,e2,e3⟩:=hx
   obtain ⟨rfl,rfl⟩:=Zbp hf
   refine Good.same h (Zgo ho h.env hu hfi hlu e2) ?_
   simp only [R]
   refine ⟨q,e1,_,rfl,fun r hr=>?_⟩
   obtain ⟨ad,e4,rfl⟩:=e3 r hr
   exact ⟨ad,e4,by rw [Zd8,Nat.add_assoc]⟩
 · rename_i b j o' e
   rw [e] at hx; simp only [R] at hx
   obtain ⟨q,e1,p,e2,e3⟩:=hx
   obtain ⟨rfl,rfl⟩:=Zbp hf
   refine Good.same h (Zgo ho h.env hu hfi hlu e2) ?_
   simp only [R]
   refine ⟨q,e1,_,rfl,fun r hr=>?_⟩
   obtain ⟨ad,e4,rfl⟩:=e3 r hr
   exact ⟨ad,e4,by rw [Zd8]; simp only [Nat.add_assoc]⟩
 · rename_i cs e
   rw [e] at hx; simp only [R] at hx
   obtain ⟨ad,vs,e1,e2,e3,e4,e5⟩:=hx
   obtain ⟨rfl,rfl⟩:=Zbp hf
   refine Good.same h (Zgo ho h.env hu hfi hlu e1) ?_
   obtain ⟨b,of,sp⟩:=ad
   simp at e2; subst e2
   simp only [R]
   refine ⟨_,vs.drop f.offset,rfl,by rw [Zd8],by rw [Zd8]; exact e3,e4.drop _,?_⟩
   rw [Zd8]
   intro j cv hj
   rw [List.getElem?_drop] at hj
   rw [Nat.add_assoc]; exact e5 _ _ hj
 · rename_i τ y e
   rw [e] at hx; simp only [R] at hx
   obtain ⟨ad,cs,e1,e2,e3,e4,e5⟩:=hx
   split at hf
   · rename_i z hz
     obtain ⟨rfl,rfl⟩:=Zbp hf
     refine Good.same h (Zgo ho h.env hu hfi hlu e1) ?_
     obtain ⟨b,of,sp⟩:=ad
     simp at e2; subst e2
     obtain ⟨d,k1,k2,k3⟩:=atOff_ok τ e4 hz (h.env.lay _ lu hlu).notUnit
     simp only [R]
     refine ⟨_,d,rfl,by rw [Zd8],by rw [Zd8]; exact e3,k2,?_⟩
     rw [Zd8,← k1]
     exact e5.sub _ _
   · cases hf
 · cases hf
theorem part_agg {E:Env} (hE:EnvOk P E) {u off:Nat} {l:TL} (hl:look E.L u = some l) {cs:Array Value} :
  (l.ty.agg = true -> (part u cs off).run P w = .ok (.agg (cs.extract off (off + l.ty.width))) w) /\ (l.ty.agg = false -> ∀ cv,cs.toList[off]? = some cv -> (part u cs off).run P w = .ok cv w):=by
 have h:=hE.lay u l hl
 constructor
 · intro ha; simp [part,h.run_agg,ha,h.run_size]
 · intro ha cv hc; exact Zhd hE hl ha hc
theorem good_field (h:Pre P E w0 Ob A B F μ s a w) {o:Oper} {t i:Nat} {x:Operand} (ho:o.op = .field t x i) (hf:opF E o.op base s = some (v,m')):Good P E.G w0 Ob A B F μ base o a w v m':=by
 rw [ho] at hf; simp only [opF,opK] at hf
 obtain ⟨l,fs,off,u,lu,hl,hk,hi,hlu,hf⟩:=wF_some hf
 obtain ⟨fields,f,hu,hfi,rfl,rfl,hb⟩:=field_of (lu:=lu) h.env hl hk hi
 have hx:=h.ev x
 have hlay:=h.env.lay _ lu hlu
 have fin:∀ {cs:Array Value} {cv:Value},a.eval x = .agg cs -> (part f.type cs f.offset).run P w = .ok cv w -> R F B w μ v cv -> m' = s.m -> Good P E.G w0 Ob A B F μ base o a w v m':=by
  intro cs cv e1 e2 e3 e4
  subst e4
  refine Good.same h (cv:=cv) ?_ e3
  unfold execOp; rw [ho]; simp [e1,Instr.field,run_underlying hu,hfi,asAgg,e2]
 split at hf
 · rename_i τ y e
   rw [e] at hx
   have hx':=hx
   split at hf
   rotate_left
   · cases hf
   rename_i hτ
   unfold Zgx at hf
   split at hf
   · rename_i z hz
     obtain ⟨rfl,rfl⟩:=Zbp hf
     simp only [R,hτ] at hx
     obtain ⟨cs,e1,k⟩:=hx
     obtain ⟨d,k1,k2,k3⟩:=atOff_ok τ k hz hlay.notUnit
     cases ha:lu.ty.agg with
     | true =>
       refine fin e1 ((part_agg h.env hlu).1 ha) ?_ rfl
       simp only [R,ha]
       exact ⟨_,rfl,by rw [Array.toList_extract,List.extract_eq_take_drop]; simpa [k1] using k2⟩
     | false =>
       have hw:=width_one ha hlay.notUnit
       obtain ⟨cv,rfl⟩:∃ cv,d = [cv]:=List.length_eq_one_iff.1 (k2.len.trans hw)
       refine fin e1 ((part_agg h.env hlu).2 ha cv ?_) (by simp only [R,ha]; exact k2) rfl
       have:=congrArg (fun l=>l[0]?) k1
       rw [hw] at this
       simpa using this
   · cases hf
 · rename_i cs e
   rw [e] at hx
   simp only [R] at hx
   obtain ⟨vs,e1,k⟩:=hx
   rcases cellK_some hf with ⟨ha,hk,hf⟩ | ⟨ha,z,hz,hf⟩ <;> obtain ⟨rfl,rfl⟩:=Zbp hf
   · refine fin e1 ((part_agg h.env hlu).1 ha) ?_ rfl
     simp only [R]
     exact ⟨_,rfl,by rw [Array.toList_extract,List.extract_eq_take_drop]; simpa using (k.drop _).take _⟩
   · obtain ⟨cv,k1,k2⟩:=k.get hz
     exact fin e1 ((part_agg h.env hlu).2 ha cv k1) k2 rfl
 · cases hf
theorem Zgq {o:Oper} {t e:Nat} {n:Nat} {x i:Operand} (ho:o.op = .indexAddr t x i) (hu:P.underlying t = some (.slice e)) (hs:(Go.sizeOf e).run P w = .ok n w) {ad:Addr} {len cap:Nat} {k:IntKind} {j:Int}
  (hx:a.eval x = .slice (some ad) len cap) (hi:a.eval i = .int k j) (h0:0 <= j) (h1:j < len):(execOp a.eval o).run P w = .ok (.value (.pointer (some (ad.add (j.toNat * n))))) w:=by
 unfold execOp; rw [ho]
 simp [hx,hi,Instr.indexAt,asIntOf,run_underlying hu,hs,h0,h1]
theorem good_indexAddr (h:Pre P E w0 Ob A B F μ s a w) {o:Oper} {t:Nat} {x i:Operand} (ho:o.op = .indexAddr t x i) (hf:opF E o.op base s = some (v,m')):Good P E.G w0 Ob A B F μ base o a w v m':=by
 rw [ho] at hf; simp only [opF,opK] at hf
 obtain ⟨l,e,le,hl,hk,hle,hf⟩:=Zg0 hf
 have hu:=(h.env.lay t l hl).kind
 rw [hk] at hu
 replace hu:=hu.1
 have hs:=(h.env.lay e le hle).run_size w
 obtain ⟨k,n,hi,hf⟩:=Zfl hf
 have ei:=Ziu (hi ▸ h.ev i)
 have hx:=h.ev x
 have frozen:∀ {r:List (D le.ty)} {ad:Option Addr} {cap:Nat} {y:D le.ty},SlR F F w le.ty r (a.eval x) ad cap -> atL r n = some y -> v = .rp le.ty y -> m' = s.m -> Good P E.G w0 Ob A B F μ base o a w v m':=by
  intro r ad cap y hsl hy e1 e2
  obtain ⟨h0,hy⟩:=atL_some hy
  have hlt:n.toNat < r.length:=(List.getElem?_eq_some_iff.1 hy).1
  cases ad with
  | none =>
    have:=hsl.nil rfl; have:=hsl.le; omega
  | some ad =>
    obtain ⟨k1,k2,k3⟩:=hsl.at_ ad rfl (by have:=hsl.le; omega)
    obtain ⟨c,k4,k5⟩:=k3 _ y hy
    subst e1 e2
    refine Good.same h (Zgq ho hu hs hsl.val ei h0 (by omega)) ?_
    obtain ⟨b,of,sp⟩:=ad
    simp at k1; subst k1
    simp only [R]
    exact ⟨_,c,rfl,by rw [Zd8],by rw [Zd8]; exact k2,k4,by rw [Zd8]; exact k5⟩
 split at hf
 · rename_i b e1
   split at hf
   · rename_i τ r hb
     split at hf
     rotate_left
     · cases hf
     rename_i hτ; subst hτ
     obtain ⟨h0,hf⟩:=Zc4 hf
     obtain ⟨h1,hf⟩:=Zc4 hf
     obtain ⟨rfl,rfl⟩:=Zbp hf
     have h0:0 <= n:=of_decide_eq_true h0
     have h1:n < (r.length:Int):=of_decide_eq_true h1
     rw [e1] at hx; simp only [R] at hx
     obtain ⟨q,e2,p1,p2,p3,e3,e4⟩:=hx
     obtain ⟨q',e5,k1,k2,k3,k4,k5⟩:=h.mem.box b _ hb
     rw [e2] at e5; cases e5
     obtain ⟨rfl,rfl,rfl⟩:=e4 q' rfl
     have h2:n.toNat < q'.len:=by rw [k1]; exact (Int.toNat_lt h0).2 h1
     cases hqa:q'.a with
     | none=>have:=k4 hqa; omega
     | some ad =>
       obtain ⟨g1,_⟩:=k5 ad hqa
       rw [hqa] at e3
       refine Good.same h (Zgq ho hu hs e3 ei h0 (by omega)) ?_
       obtain ⟨bb,of,sp⟩:=ad
       simp at g1; subst g1
       simp only [R]
       refine ⟨_,e2,_,rfl,fun q hq=>?_⟩
       cases hq
       exact ⟨_,hqa,by rw [Zd8,k3]; simp⟩
   · rename_i τ r hb
     split at hf
     rotate_left
     · cases hf
     rename_i hτ; subst hτ
     obtain ⟨y,hy,hf⟩:=Zd0 hf
     obtain ⟨rfl,rfl⟩:=Zbp hf
     obtain ⟨ad,cap,hsl⟩:=Zid (X:=fun c=>F c) h.mem (fun _ x=>x) hx (by
      rw [e1]; intro c hc τ' r' q ad e0 e2 e3
      simp [Ze3] at hc; subst hc
      rw [hb] at e0; cases e0) (τ:=le.ty) (l:=r) (by rw [e1]; simp only [Zeq,hb]; simp [Zev])
     exact frozen hsl hy rfl rfl
   · rename_i τ r hb
     split at hf
     rotate_left
     · cases hf
     rename_i hτ; subst hτ
     obtain ⟨h0,hf⟩:=Zc4 hf
     obtain ⟨h1,hf⟩:=Zc4 hf
     obtain ⟨rfl,rfl⟩:=Zbp hf
     have h0:0 <= n:=of_decide_eq_true h0
     have h1:n < (r.length:Int):=of_decide_eq_true h1
     rw [e1] at hx; simp only [R] at hx
     obtain ⟨q,e2,p1,p2,p3,e3,e4⟩:=hx
     obtain ⟨q',e5,k1,k2,k3,k4,k5⟩:=h.mem.box b _ hb
     rw [e2] at e5; cases e5
     obtain ⟨rfl,rfl,rfl⟩:=e4 q' rfl
     have h2:n.toNat < q'.len:=by rw [k1]; exact (Int.toNat_lt h0).2 h1
     cases hqa:q'.a with
     | none=>have:=k4 hqa; omega
     | some ad =>
       obtain ⟨g1,_⟩:=k5 ad hqa
       rw [hqa] at e3
       refine Good.same h (Zgq ho hu hs e3 ei h0 (by omega)) ?_
       obtain ⟨bb,of,sp⟩:=ad
       simp at g1; subst g1
       simp only [R]
       refine ⟨_,e2,_,rfl,fun q hq=>?_⟩
       cases hq
       exact ⟨_,hqa,by rw [Zd8,k3]; simp⟩
   · rename_i τ r k0 y0 o0 u0 hb
     split at hf
     rotate_left
     · cases hf
     rename_i hτ; subst hτ
     obtain ⟨h0,hf⟩:=Zc4 hf
     obtain ⟨h1,hf⟩:=Zc4 hf
     obtain ⟨rfl,rfl⟩:=Zbp hf
     have h0:0 <= n:=of_decide_eq_true h0
     have h1:n < (r.length:Int):=of_decide_eq_true h1
     rw [e1] at hx; simp only [R] at hx
     obtain ⟨q,e2,p1,p2,p3,e3,e4⟩:=hx
     obtain ⟨q',e5,⟨k1,k2,k3,k4,k5⟩,_⟩:=h.mem.box b _ hb
     rw [e2] at e5; cases e5
     obtain ⟨rfl,rfl,rfl⟩:=e4 q' rfl
     have h2:n.toNat < q'.len:=by rw [k1]; exact (Int.toNat_lt h0).2 h1
     cases hqa:q'.a with
     | none=>have:=k4 hqa; omega
     | some ad =>
       obtain ⟨g1,_⟩:=k5 ad hqa
       rw [hqa] at e3
       refine Good.same h (Zgq ho hu hs e3 ei h0 (by omega)) ?_
       obtain ⟨bb,of,sp⟩:=ad
       simp at g1; subst g1
       simp only [R]
       refine ⟨_,e2,_,rfl,fun q hq=>?_⟩
       cases hq
       exact ⟨_,hqa,by rw [Zd8,k3]; simp⟩
   · cases hf
 · rename_i e' r e1
   split at hf
   rotate_left
   · cases hf
   rename_i hτ; subst hτ
   obtain ⟨y,hy,hf⟩:=Zd0 hf
   obtain ⟨rfl,rfl⟩:=Zbp hf
   obtain ⟨ad,cap,hsl⟩:=Zid (X:=fun c=>F c) h.mem (fun _ x=>x) hx (by rw [e1]; intro c hc; simp [Ze3] at hc) (τ:=le.ty) (l:=r) (by rw [e1]; simp only [Zeq]; simp [Zev])
   exact frozen hsl hy rfl rfl
 · cases hf
theorem good_index (h:Pre P E w0 Ob A B F μ s a w) {o:Oper} {t:Nat} {x i:Operand} (ho:o.op = .index t x i) (hf:opF E o.op base s = some (v,m')):Good P E.G w0 Ob A B F μ base o a w v m':=by
 rw [ho] at hf; simp only [opF,opK] at hf
 obtain ⟨l,hl,hf⟩:=Zdy hf
 obtain ⟨k,n,hi,hf⟩:=Zfl hf
 have ei:=Ziu (hi ▸ h.ev i)
 have hk:=(h.env.lay t l hl).kind
 split at hf
 · rename_i e; rw [e] at hk
   split at hf
   · rename_i b e1
     have ex:=R_str (e1 ▸ h.ev x)
     obtain ⟨z,hz,hf⟩:=Zd0 hf
     obtain ⟨rfl,rfl⟩:=Zbp hf
     unfold atS at hz
     split at hz
     · rename_i h0
       simp only [Option.map_eq_some_iff] at hz
       obtain ⟨c,h1,rfl⟩:=hz
       refine Good.same h (cv:=.int .u8 c.toNat) ?_ (Zib _ _)
       have h2:b[n.toNat]? = some c:=by
        obtain ⟨hlt,he⟩:=Array.getElem?_eq_some_iff.1 h1
        rw [getElem?_pos b n.toNat hlt]; exact congrArg some he
       unfold execOp; rw [ho]
       simp [ex,ei,Instr.index,asIntOf,run_underlying hk.1,h0,h2]
     · cases hz
   · cases hf
 · cases hf
end
end Go.E
namespace Go.E
open Go Go.RowKit
def Zgz (μ:Mu) (base:Nat):Prop:=∀ k,k < 64 -> μ (base + k) = none
section
variable {P:Program} {E:Env} {G:List (Nat × List V)} {w0:World} {Ob A B F:Nat -> Prop} {μ:Mu} {m:Hp} {w:World} {base:Nat} {s:St} {a:Act} {v:V} {m':Hp}
theorem Zgz.at0 (h:Zgz μ base):μ base = none:=by have:=h 0 (by omega); simpa using this
theorem Zig (w:World) (c:Array Value) (t:TypeId) (fr:Nat × Nat) (i:Nat):(w.alloc (.cells c t fr)).cell? ⟨w.heap.size,i,none⟩ = c[i]?:=by
 simp only [World.cell?,World.alloc,Array.getElem?_push_size]; rfl
theorem frozen_new (w:World) (c:Array Value) (t:TypeId) (fr:Nat × Nat) (i:Nat):(w.alloc (.cells c t fr)).frozen? ⟨w.heap.size,i,none⟩ = (decide (fr.1 <= i) && decide (i < fr.2)):=by
 simp only [World.frozen?,World.alloc,Array.getElem?_push_size]
theorem Zg2 (μ:Mu) (base:Nat) (o:Option MB):∀ id,¬ (base <= id /\ id < base + 64) -> μ id = none -> upd μ base o id = none:=fun id h e=>by
 unfold upd; rw [if_neg (fun e=>h (by omega))]; exact e
theorem newBox (h:Mem G w0 Ob A B F μ m w) (hb:Zgz μ base) (c:Array Value) (t:TypeId) (cs:List V) (hr:RL F B w μ cs c.toList) :
  ∃ μ',Step1 G w0 Ob A B F μ w base F μ' ((base,some (.cs cs)) :: m) (w.alloc (.cells c t)) /\ R F B (w.alloc (.cells c t)) μ' (.ptr base 0) (.pointer (some ⟨w.heap.size,0,none⟩)):=by
 let q:MB:=⟨some ⟨w.heap.size,0,none⟩,0,0,0⟩
 have tr:=Tr.alloc h (.cells c t) hb.at0 q
 refine ⟨upd μ base (some q),⟨h.alloc hb.at0 (.cs cs) _ q (fun ad e=>by cases e; rfl) rfl ?_,tr,Zg2 μ base _⟩,?_⟩
 · refine ⟨_,c.toList,rfl,rfl,tr.RL hr,fun j v hj=>?_,fun k hk=>?_⟩
   · simp only [Nat.zero_add]; rw [Zig]; simpa using hj
   · have:=RL.len hr
     simp only [Nat.zero_add]
     refine ⟨by rw [Zig]; simp at this; simp; omega,by rw [frozen_new]; simp⟩
 · simp only [R]
   exact ⟨some q,by simp [upd],_,rfl,fun p hp=>by cases hp; exact ⟨_,rfl,rfl⟩⟩
def Zey (F:Nat -> Prop) (w:World) (τ:Ty) (l:List (D τ)) (c:List Value):Prop:=∀ (i:Nat) x,l[i]? = some x -> RC F w τ x ((c.drop (i * τ.width)).take τ.width)
theorem Zey.at_ {F:Nat -> Prop} {w w':World} {τ:Ty} {l:List (D τ)} {c:List Value} (h:Zey F w τ l c) (hk:Keep F w w') {b:Nat} (hc:∀ i v,c[i]? = some v -> w'.cell? ⟨b,i,none⟩ = some v):Zgu F w' τ l ⟨b,0,none⟩:=fun i x hx =>
 ⟨_,(h i x hx).mono (fun _ y=>y) hk,fun j v hj=>by
  rw [List.getElem?_take] at hj
  split at hj
  · rw [List.getElem?_drop] at hj; simp only [Nat.zero_add]; exact hc _ _ hj
  · cases hj⟩
theorem newRows (h:Mem G w0 Ob A B F μ m w) (hb:Zgz μ base) (c:Array Value) (t:TypeId) (fr:Nat × Nat) (τ:Ty) (l:List (D τ)) (cap:Nat) (hle:l.length <= cap) (hcap:cap * τ.width <= c.size)
  (hfr:∀ k,k < cap * τ.width -> (decide (fr.1 <= k) && decide (k < fr.2)) = false) (hr:Zey F w τ l c.toList) :
  ∃ μ',Step1 G w0 Ob A B F μ w base F μ' ((base,some (.rows τ l)) :: m) (w.alloc (.cells c t fr)) /\ R F B (w.alloc (.cells c t fr)) μ' (.arr base) (.slice (some ⟨w.heap.size,0,none⟩) l.length cap):=by
 let q:MB:=⟨some ⟨w.heap.size,0,none⟩,l.length,cap,τ.width⟩
 have tr:=Tr.alloc h (.cells c t fr) hb.at0 q
 refine ⟨upd μ base (some q),⟨h.alloc hb.at0 (.rows τ l) _ q (fun ad e=>by cases e; rfl) rfl ?_,tr,Zg2 μ base _⟩,?_⟩
 · refine ⟨rfl,hle,rfl,(fun e=>by cases e),fun ad e=>?_⟩
   cases e
   refine ⟨rfl,hr.at_ tr.keep (fun i v hv=>by rw [Zig]; simpa using hv),fun k hk=>?_⟩
   simp only [Nat.zero_add]
   have hk':k < cap * τ.width:=hk
   exact ⟨by rw [Zig]; simp; omega,by rw [frozen_new]; exact hfr k hk'⟩
 · simp only [R]
   exact ⟨some q,by simp [upd],_,_,_,rfl,fun p hp=>by cases hp; exact ⟨rfl,rfl,rfl⟩⟩
theorem run_newRow (c:Array Value) (t:TypeId):(newRow t c).run P w = .ok ⟨w.heap.size,0,none⟩ (w.alloc (.cells c t)):=by
 rfl
theorem good_alloc (h:Pre P E w0 Ob A B F μ s a w) (hb:Zgz μ base) {o:Oper} {t:Nat} (ho:o.op = .alloc t) (hf:opF E o.op base s = some (v,m')):Good P E.G w0 Ob A B F μ base o a w v m':=by
 rw [ho] at hf; simp only [opF,opK] at hf
 obtain ⟨l,hl,hf⟩:=Zdy hf
 obtain ⟨rfl,rfl⟩:=Zbp hf
 obtain ⟨z,hz,hzs,hzr⟩:=(h.env.lay t l hl).run_zero
 obtain ⟨μ',st,r⟩:=newBox h.mem hb z.cells t l.zero (hz ▸ scalL_ok F B w μ z.cells.toList)
 refine Good.value ?_ st r
 unfold execOp; rw [ho]
 simp [Instr.alloc,hzr,newVar,run_newRow]
theorem good_box (h:Pre P E w0 Ob A B F μ s a w) (hb:Zgz μ base) {o:Oper} {t:Nat} {x:Operand} (ho:o.op = .box t x) (hf:opF E o.op base s = some (v,m')):Good P E.G w0 Ob A B F μ base o a w v m':=by
 rw [ho] at hf; simp only [opF,opK] at hf
 obtain ⟨l,hl,hf⟩:=Zdy hf
 split at hf
 rotate_left
 · cases hf
 rename_i hc
 obtain ⟨rfl,rfl⟩:=Zbp hf
 have hr:RL F B w μ (opnd E s x).cells (a.eval x).cells.toList:=cells_ok (h.ev x) (fun e=>by have:=hc.2; rw [e] at this; cases this)
 obtain ⟨μ',st,r⟩:=newBox h.mem hb (a.eval x).cells t _ hr
 refine Good.value ?_ st r
 unfold execOp; rw [ho]
 simp [Instr.box,newVar,run_newRow]
end
end Go.E
namespace Go.E
open Go Go.RowKit
section
variable {P:Program} {E:Env} {G:List (Nat × List V)} {w0:World} {Ob A B F:Nat -> Prop} {μ:Mu} {m:Hp} {w:World} {base:Nat} {s:St} {a:Act} {v:V} {m':Hp}
theorem one_ok {v:V} {cv:Value} (h:R F B w μ v cv) (ho:oneV v = true):cv.oneCell' = true:=by
 cases v with
 | undef=>cases ho
 | agg cs=>cases ho
 | tup cs=>cases ho
 | nil=>simp only [R] at h; subst h; rfl
 | nilp=>simp only [R] at h; subst h; rfl
 | arr b=>simp only [R] at h; obtain ⟨_,_,_,_,_,rfl,_⟩:=h; rfl
 | ptr b off=>simp only [R] at h; obtain ⟨_,_,_,rfl,_⟩:=h; rfl
 | ep b i off=>simp only [R] at h; obtain ⟨_,_,_,rfl,_⟩:=h; rfl
 | cut b lo hi=>simp only [R] at h; obtain ⟨_,_,_,_,_,rfl,_⟩:=h; rfl
 | map b=>simp only [R] at h; obtain ⟨_,_,_,rfl,_⟩:=h; rfl
 | it b=>simp only [R] at h; obtain ⟨_,_,_,rfl,_⟩:=h; rfl
 | rp τ x=>simp only [R] at h; obtain ⟨_,_,rfl,_⟩:=h; rfl
 | rc cs=>simp only [R] at h; obtain ⟨_,_,rfl,_⟩:=h; rfl
 | fn f cs=>simp only [R] at h; obtain ⟨_,rfl,_⟩:=h; rfl
 | val τ x =>
   cases τ with
   | pr a b=>cases ho
   | q=>cases ho
   | unit=>cases ho
   | int k=>have:=Ziu h; subst this; rfl
   | bool=>have:=R_bool h; subst this; rfl
   | str=>have:=R_str h; subst this; rfl
   | err =>
     have:=R_err h
     cases hx:(x:Bool) with
     | false=>rw [this.1 hx]; rfl
     | true=>obtain ⟨t,y,e⟩:=this.2 hx; rw [e]; rfl
   | sl e=>simp only [R,Ty.agg,RC] at h; obtain ⟨_,_,e,_⟩:=h; cases e; rfl
theorem oneL_ok:∀ {vs:List V} {cs:List Value},RL F B w μ vs cs -> vs.all oneV = true -> ∀ c ∈ cs,c.oneCell' = true
 | [],[],_,_=>by simp
 | v :: vs,c :: cs,h,ho=>by
   simp only [RL] at h
   simp only [List.all_cons,Bool.and_eq_true] at ho
   intro d hd
   rcases List.mem_cons.1 hd with rfl | hd
   · exact one_ok h.1 ho.1
   · exact oneL_ok h.2 ho.2 d hd
 | [],_ :: _,h,_=>by simp [RL] at h
 | _ :: _,[],h,_=>by simp [RL] at h
theorem RC.one:∀ {τ:Ty} {x:D τ} {cs:List Value},RC F w τ x cs -> ∀ c ∈ cs,c.oneCell' = true:=by
 intro τ
 induction τ with
 | pr a b iha ihb =>
   intro x cs h c hc; simp only [RC] at h; obtain ⟨d,e,rfl,h1,h2⟩:=h
   rcases List.mem_append.1 hc with hc | hc
   · exact iha h1 c hc
   · exact ihb h2 c hc
 | q =>
   intro x cs h c hc; simp only [RC] at h; cases h
   simp at hc; rcases hc with rfl | rfl | rfl | rfl | rfl | rfl <;> rfl
 | int k=>intro x cs h c hc; simp only [RC] at h; subst h; simp at hc; subst hc; rfl
 | bool=>intro x cs h c hc; simp only [RC] at h; subst h; simp at hc; subst hc; rfl
 | str=>intro x cs h c hc; simp only [RC] at h; subst h; simp at hc; subst hc; rfl
 | unit=>intro x cs h c hc; simp only [RC] at h; subst h; simp at hc
 | err =>
   intro x cs h c hc; simp only [RC] at h; obtain ⟨v,rfl,h1,h2⟩:=h
   simp at hc; subst hc
   cases hx:(x:Bool) with
   | false=>rw [h1 hx]; rfl
   | true=>obtain ⟨t,y,e⟩:=h2 hx; rw [e]; rfl
 | sl e=>intro x cs h c hc; simp only [RC] at h; obtain ⟨_,_,rfl,_⟩:=h; simp at hc; subst hc; rfl
theorem Stor.set {b o n:Nat} (h:Stor w b o n) (g o':Nat) (vs:List Value):Stor (w.setCells g o' vs) b o n:=fun k hk =>
 ⟨World.isSome_setCells g vs o' w _ (h k hk).1,by rw [World.frozen?_setCells]; exact (h k hk).2⟩
theorem cells_splice {b o:Nat} {vs us:List Value} {off:Nat} (hc:Zdz w b o vs) (hs:Stor w b o vs.length) (hn:off + us.length <= vs.length) :
  Zdz (w.setCells b (o + off) us) b o (vs.take off ++ us ++ vs.drop (off + us.length)):=fun j cv hj=>by
 by_cases h1:j < off
 · rw [World.cell?_setCells_out b us _ _ _ (fun _ _=>.inl (by simp; omega))]
   rw [List.append_assoc,List.getElem?_append_left (by simp; omega),List.getElem?_take,if_pos h1] at hj
   exact hc j cv hj
 · by_cases h2:j < off + us.length
   · have h3:j - off < us.length:=by omega
     have:=World.cell?_setCells_in b us (o + off) w (fun k hk=>by rw [Nat.add_assoc]; exact (hs (off + k) (by omega)).1) (j - off) h3
     rw [show o + off + (j - off) = o + j by omega] at this
     rw [this]
     rw [List.append_assoc,List.getElem?_append_right (by simp; omega),List.getElem?_append_left (by simp; omega)] at hj
     simp only [List.length_take,Nat.min_eq_left (by omega:off <= vs.length)] at hj
     rw [← hj,List.getElem?_eq_getElem h3]
   · rw [World.cell?_setCells_out b us _ _ _ (fun _ _=>.inr (by simp; omega))]
     rw [List.getElem?_append_right (by simp; omega),List.getElem?_drop] at hj
     simp only [List.length_append,List.length_take,Nat.min_eq_left (by omega:off <= vs.length)] at hj
     rw [show off + us.length + (j - (off + us.length)) = j by omega] at hj
     exact hc j cv hj
theorem run_storeVar {t:Nat} {l:TL} (hl:Lay P E.L t l) {b o:Nat} {cv:Value} (hn:cv.cells.size = l.ty.width) (hs:Stor w b o l.ty.width) (h1:∀ c ∈ cv.cells.toList,c.oneCell' = true) :
  (storeVar t ⟨b,o,none⟩ cv).run P w = .ok () (w.setCells b o cv.cells.toList):=by
 have:=run_storeCells_cells (P:=P) b o cv.cells.toList 0 w (fun j hj=>by simp at hj; simpa using (hs j (by omega)).1) (fun j hj=>by simp at hj; simpa using (hs j (by omega)).2) h1
 simp [storeVar,hl.run_size,hn,this]
end
end Go.E

/- An evaluator of the program's code, and what its values stand for in a world. No condition. -/
import Derived.WalkKit
import Derived.Below
import Derived.Orders
import Derived.Laws.IdiomCopy
import Derived.Laws.StructEq
set_option linter.unusedVariables false
namespace Go.E
open Go

def roomMax : Nat := 2 ^ 38
def bs (l : List Nat) : ByteArray := ⟨(l.map UInt8.ofNat).toArray⟩
-- PRIMITIVES
def iteB {R : Type} (b : Bool) (x y : Option R) : Option R := if b = true then x else y
def bindO {α R : Type} (o : Option α) (f : α → Option R) : Option R := o.bind f
def addI (k : IntKind) (a b : Int) : Int := k.wrap (a + b)
def subI (k : IntKind) (a b : Int) : Int := k.wrap (a - b)
def mulI (k : IntKind) (a b : Int) : Int := k.wrap (a * b)
def divI (k : IntKind) (a b : Int) : Int := k.wrap (a.tdiv b)
def modI (a b : Int) : Int := a.tmod b
def xorI (k : IntKind) (a b : Int) : Int := k.wrap ((BitVec.ofInt k.bits a ^^^ BitVec.ofInt k.bits b).toNat : Int)
def negI (k : IntKind) (a : Int) : Int := k.wrap (0 - a)
def convI (k : IntKind) (a : Int) : Int := k.wrap a
def minI (a b : Int) : Int := if b < a then b else a
def maxI (a b : Int) : Int := if b > a then b else a
def ltI (a b : Int) : Bool := decide (a < b)
def leI (a b : Int) : Bool := decide (a ≤ b)
def eqI (a b : Int) : Bool := decide (a = b)
def notB (a : Bool) : Bool := !a
def andB (a b : Bool) : Bool := a && b
def eqBo (a b : Bool) : Bool := a == b
def ltS (a b : ByteArray) : Bool := Op.bytesLess a.toList b.toList
def eqS (a b : ByteArray) : Bool := decide (a = b)
def lenS (a : ByteArray) : Int := a.size
def catS (a b : ByteArray) : ByteArray := a ++ b
def cutS (a : ByteArray) (l h : Int) : ByteArray := a.extract l.toNat h.toNat
def atS (a : ByteArray) (i : Int) : Option Int := if 0 ≤ i then (a.data[i.toNat]?).map fun b => (b.toNat : Int) else none
def rowOfS (a : ByteArray) : List Int := a.data.toList.map fun b => (b.toNat : Int)
def strOf (l : List Int) : ByteArray := ⟨(l.map fun n => UInt8.ofNat n.toNat).toArray⟩
def lenL {α : Type} (l : List α) : Int := l.length
def atL {α : Type} (l : List α) (i : Int) : Option α := if 0 ≤ i then l[i.toNat]? else none
def setL {α : Type} (l : List α) (i : Int) (x : α) : List α := l.set i.toNat x
def appL {α : Type} (a b : List α) : List α := a ++ b
def cutL {α : Type} (l : List α) (a b : Int) : List α := (l.take b.toNat).drop a.toNat
def repL {α : Type} (n : Int) (x : α) : List α := List.replicate n.toNat x
def okCut (l h n : Int) : Bool := decide (0 ≤ l ∧ l ≤ h ∧ h ≤ n)
def roomL {α : Type} (a b : List α) : Bool := decide (a.length + b.length ≤ roomMax)
def roomS (a b : ByteArray) : Bool := decide (a.size + b.size ≤ roomMax)
def roomN (n : Int) : Bool := decide (0 ≤ n ∧ n ≤ roomMax)
-- END

inductive Ty
  | int (k : IntKind) | bool | str | err | unit | pr (a b : Ty) | sl (e : Ty) | q
  deriving DecidableEq

inductive Q
  | mk (kind : Int) (field text : ByteArray) (low high : Int) (parts : List Q)

def Q.kind : Q → Int | .mk a _ _ _ _ _ => a
def Q.field : Q → ByteArray | .mk _ a _ _ _ _ => a
def Q.text : Q → ByteArray | .mk _ _ a _ _ _ => a
def Q.low : Q → Int | .mk _ _ _ a _ _ => a
def Q.high : Q → Int | .mk _ _ _ _ a _ => a
def Q.parts : Q → List Q | .mk _ _ _ _ _ a => a

abbrev D : Ty → Type
  | .int _ => Int
  | .bool => Bool
  | .str => ByteArray
  | .err => Bool
  | .unit => Unit
  | .pr a b => D a × D b
  | .sl e => List (D e)
  | .q => Q

def tupTy : List Ty → Ty
  | [] => .unit
  | [a] => a
  | a :: r => .pr a (tupTy r)

/-- What a value stands for: memory that is not written any more is told by what it holds; memory of the function's own by a number. -/
inductive V
  | undef
  | val (τ : Ty) (x : D τ)
  | nil
  | nilp
  | agg (cs : List V)
  | tup (vs : List V)
  | arr (b : Nat)
  | ptr (b off : Nat)
  | ep (b : Nat) (i : Int) (off : Nat)
  | rp (τ : Ty) (x : D τ)
  | rc (cs : List V)
  | fn (f : Nat) (caps : List V)
  deriving Inhabited

inductive Bx
  | cs (cs : List V)
  | rows (τ : Ty) (l : List (D τ))
  | fz (τ : Ty) (l : List (D τ))


def look {α : Type _} : List (Nat × α) → Nat → Option α
  | [], _ => none
  | (k, v) :: r, b => if k = b then some v else look r b

abbrev Hp := List (Nat × Option Bx)
def Hp.at (m : Hp) (b : Nat) : Option Bx := match look m b with
  | some (some x) => some x
  | _ => none

structure St where
  t : List (Nat × V)
  m : Hp
  n : Nat

def St.get (s : St) (k : Nat) : V := match look s.t k with
  | some v => v
  | none => .undef

def St.put (s : St) (d : Option Nat) (v : V) : St := match d with
  | some d => { s with t := (d, v) :: s.t }
  | none => s

inductive TK | int (k : IntKind) | bool | str | sl (e : TypeId) | st (fs : List (Nat × TypeId)) | ptr (e : TypeId) | err | other

/-- What is known of a type: its kind, the type of its values, its zero. -/
structure TL where
  k : TK
  ty : Ty
  zero : List V

def Ty.width : Ty → Nat
  | .pr a b => a.width + b.width
  | .q => 6
  | .unit => 0
  | _ => 1

def Ty.agg : Ty → Bool
  | .pr _ _ => true
  | .q => true
  | _ => false

/-- The cells of a typed value. -/
def leafs : (τ : Ty) → D τ → List V
  | .pr a b, x => leafs a x.1 ++ leafs b x.2
  | .q, x => [.val (.int .i64) x.kind, .val .str x.field, .val .str x.text, .val (.int .i64) x.low, .val (.int .i64) x.high, .val (.sl .q) x.parts]
  | .unit, _ => []
  | τ, x => [.val τ x]

def castD {τ σ : Ty} (x : D τ) : Option (D σ) := if h : τ = σ then some (h ▸ x) else none

/-- The part of a typed value that begins at a cell. -/
def atOff : (τ : Ty) → D τ → Nat → (σ : Ty) → Option (D σ)
  | .pr a b, x, off, σ =>
    if off = 0 ∧ σ = .pr a b then castD (τ := .pr a b) x
    else if off < a.width then atOff a x.1 off σ else atOff b x.2 (off - a.width) σ
  | .q, x, off, σ =>
    if off = 0 ∧ σ = .q then castD (τ := .q) x
    else match off with
      | 0 => castD (τ := .int .i64) x.kind
      | 1 => castD (τ := .str) x.field
      | 2 => castD (τ := .str) x.text
      | 3 => castD (τ := .int .i64) x.low
      | 4 => castD (τ := .int .i64) x.high
      | 5 => castD (τ := .sl .q) x.parts
      | _ => none
  | τ, x, off, σ => if off = 0 then castD (τ := τ) x else none

/-- A typed value, a part of it put anew. -/
def setOff : (τ : Ty) → D τ → Nat → (σ : Ty) → D σ → Option (D τ)
  | .pr a b, x, off, σ, y =>
    if off = 0 ∧ σ = .pr a b then castD y
    else if off < a.width then (setOff a x.1 off σ y).map fun z => (z, x.2) else (setOff b x.2 (off - a.width) σ y).map fun z => (x.1, z)
  | τ, _, off, _, y => if off = 0 then castD y else none

def rowsOf (m : Hp) (τ : Ty) : V → Option (List (D τ))
  | .val (.sl e) l => castD (τ := .sl e) (σ := .sl τ) l
  | .nil => some []
  | .arr b => match m.at b with
    | some (.rows e l) => castD (τ := .sl e) (σ := .sl τ) l
    | some (.fz e l) => castD (τ := .sl e) (σ := .sl τ) l
    | _ => none
  | _ => none

/-- A value of one cell, as typed. -/
def typed1 (m : Hp) (τ : Ty) : V → Option (D τ)
  | .val σ x => castD x
  | v => match τ with
    | .sl e => rowsOf m e v
    | _ => none

/-- A typed value out of cells, and the cells behind it. -/
def asm (m : Hp) : (τ : Ty) → List V → Option (D τ × List V)
  | .pr a b, cs => match asm m a cs with
    | some (x, r) => match asm m b r with
      | some (y, r) => some ((x, y), r)
      | none => none
    | none => none
  | .q, cs => match cs with
    | a :: b :: c :: d :: e :: f :: r => match typed1 m (.int .i64) a, typed1 m .str b, typed1 m .str c, typed1 m (.int .i64) d, typed1 m (.int .i64) e, typed1 m (.sl .q) f with
      | some a, some b, some c, some d, some e, some f => some (.mk a b c d e f, r)
      | _, _, _, _, _, _ => none
    | _ => none
  | .unit, cs => some ((), cs)
  | τ, v :: r => match typed1 m τ v with
    | some x => some (x, r)
    | none => none
  | _, [] => none

def typed (m : Hp) (τ : Ty) : V → Option (D τ)
  | .val σ x => castD x
  | .agg cs => match τ.agg with
    | true => match asm m τ cs with
      | some (x, []) => some x
      | _ => none
    | false => none
  | v => typed1 m τ v

def V.cells : V → List V
  | .val τ x => leafs τ x
  | .agg cs => cs
  | v => [v]

def frz1 (m : Hp) : V → Hp
  | .arr b => match m.at b with
    | some (.rows τ l) => (b, some (.fz τ l)) :: m
    | _ => m
  | _ => m

def frz (m : Hp) : V → Hp
  | .agg cs => cs.foldl frz1 m
  | .tup cs => cs.foldl frz1 m
  | v => frz1 m v

def scal : Value → V
  | .bool b => .val .bool b
  | .int k n => .val (.int k) n
  | .string s => .val .str s
  | .slice none 0 0 => .nil
  | .pointer none => .nilp
  | .nilIface => .val .err false
  | _ => .undef

def ofVal : Value → V
  | .agg cs => .agg (cs.toList.map scal)
  | v => scal v

def eqB : TK → V → V → Option Bool
  | .bool, .val .bool a, .val .bool b => some (eqBo a b)
  | .int _, .val (.int k) a, .val (.int k') b => if k = k' then some (eqI a b) else none
  | .str, .val .str a, .val .str b => some (eqS a b)
  | _, _, _ => none

def eqL (L : List (Nat × TL)) : List TypeId → List V → List V → Option Bool
  | [u], [a], [b] => match look L u with
    | some l => eqB l.k a b
    | none => none
  | u :: us, a :: x, b :: y => match look L u with
    | some l => match eqB l.k a b, eqL L us x y with
      | some c, some d => some (andB c d)
      | _, _ => none
    | none => none
  | _, _, _ => none

def binI (op : BinOp) (k : IntKind) (a b : Int) : Option V :=
  match op with
  | .add => some (.val (.int k) (addI k a b))
  | .sub => some (.val (.int k) (subI k a b))
  | .mul => some (.val (.int k) (mulI k a b))
  | .lss => some (.val .bool (ltI a b))
  | .leq => some (.val .bool (leI a b))
  | .gtr => some (.val .bool (ltI b a))
  | .geq => some (.val .bool (leI b a))
  | .eql => some (.val .bool (eqI a b))
  | .neq => some (.val .bool (notB (eqI a b)))
  | .xor => some (.val (.int k) (xorI k a b))
  | _ => none

def binS (op : BinOp) (a b : ByteArray) : Option V :=
  match op with
  | .lss => some (.val .bool (ltS a b))
  | .leq => some (.val .bool (notB (ltS b a)))
  | .gtr => some (.val .bool (ltS b a))
  | .geq => some (.val .bool (notB (ltS a b)))
  | .eql => some (.val .bool (eqS a b))
  | .neq => some (.val .bool (notB (eqS a b)))
  | _ => none

end Go.E

set_option linter.unusedVariables false
namespace Go.E
open Go

/-- What a callee leaves: the value (own memory in it numbered from 0 on), that memory, and what the pointers handed to it lead to. -/
structure Res where
  v : V
  bs : List Bx := []
  outs : List (Nat × Bx) := []
  /-- Which field is meant, where a struct's row is handed in place. -/
  offs : List (Nat × Nat) := []

abbrev Entry := (R : Type) → List V → (Res → Option R) → Option R

structure Env where
  L : List (Nat × TL)
  G : List (Nat × List V)
  C : List (Nat × Entry)

def Ty.hasSl : Ty → Bool
  | .sl _ => true
  | .q => true
  | .pr a b => a.hasSl || b.hasSl
  | _ => false
/-- No row is named: none of that type is in it, or it is an empty one. -/
def slOf : (τ : Ty) → D τ → Bool
  | .sl _, l => match l with
    | [] => false
    | _ => true
  | τ, _ => τ.hasSl
def hasSl1 : V → Bool
  | .val τ x => slOf τ x
  | _ => false
def hasSl : V → Bool
  | .agg cs => cs.any hasSl1
  | .tup cs => cs.any fun v => match v with | .agg ds => ds.any hasSl1 | v => hasSl1 v
  | v => hasSl1 v
def hasSlB : Bx → Bool
  | .cs cs => cs.any hasSl1
  | .rows τ _ => τ.hasSl
  | .fz _ _ => true
def Res.hasSl (r : Res) : Bool := E.hasSl r.v || r.bs.any hasSlB || r.outs.any fun p => hasSlB p.2

/-- Does a value name a box? -/
def ment (m : Hp) (b : Nat) : Nat → V → Bool
  | 0, _ => true
  | k + 1, v => match v with
    | .arr c => c == b
    | .ptr c _ => c == b || (match m.at c with
      | some (.cs cs) => cs.any (ment m b k)
      | _ => false)
    | .ep c _ _ => c == b
    | .agg cs => cs.any (ment m b k)
    | .tup cs => cs.any (ment m b k)
    | .rc cs => cs.any (ment m b k)
    | .fn _ cs => cs.any (ment m b k)
    | _ => false

def idOf : V → Option Nat
  | .arr b => some b
  | .ptr b _ => some b
  | _ => none

def idArr : V → Option Nat
  | .arr b => some b
  | _ => none

/-- The box of an argument that is handed in place; of a struct's one field's. -/
def idAt (offs : List (Nat × Nat)) (i : Nat) (v : V) : Option Nat := match look offs i with
  | none => idOf v
  | some off => match v with
    | .agg cs => (cs[off]?).bind idArr
    | _ => none

def hasKey {α : Type} (l : List (Nat × α)) (i : Nat) : Bool := l.any fun p => p.1 == i

/-- No other argument names a box that one is handed in place. -/
def apartOk (m : Hp) (offs : List (Nat × Nat)) (outs : List (Nat × Bx)) (args : List V) : Bool :=
  outs.all fun p => match (args[p.1]?).bind (idAt offs p.1) with
    | some b => (args.zipIdx).all fun q => q.2 == p.1 || !(ment m b 5 q.1)
    | none => false

def frzBut (outs : List (Nat × Bx)) (args : List V) (m : Hp) : Hp :=
  (args.zipIdx).foldl (fun m q => if hasKey outs q.2 then m else frz m q.1) m

def shift1 (base : Nat) : V → V
  | .arr i => .arr (base + i)
  | .ptr i o => .ptr (base + i) o
  | v => v
def shiftV (base : Nat) : V → V
  | .agg cs => .agg (cs.map (shift1 base))
  | .tup cs => .tup (cs.map fun v => match v with | .agg ds => .agg (ds.map (shift1 base)) | v => shift1 base v)
  | v => shift1 base v

def addBoxes : Nat → Nat → List Bx → Hp → Hp
  | _, _, [], m => m
  | base, k, b :: r, m => addBoxes base (k + 1) r ((base + k, some b) :: m)

/-- A value that names no box. -/
def idFree : V → Bool
  | .val _ _ => true
  | .nil => true
  | .nilp => true
  | _ => false
def simpleV : V → Bool
  | .arr _ => true
  | .ptr _ _ => true
  | .undef => true
  | v => idFree v
def okRes : V → Bool
  | .agg cs => cs.all simpleV
  | .tup cs => cs.all fun v => match v with | .agg ds => ds.all simpleV | v => simpleV v
  | v => simpleV v
def okBx : Bx → Bool
  | .cs cs => cs.all idFree
  | .rows _ _ => true
  | .fz _ _ => false
def Res.okRes (r : Res) : Bool := E.okRes r.v && r.bs.all okBx && r.outs.all (fun p => okBx p.2) && decide (r.bs.length ≤ 64)

def handP (m : Hp) : V → V
  | .ptr b 0 => match m.at b with
    | some (.cs cs) => if cs.all idFree = true then .rc cs else .undef
    | _ => .undef
  | .rc cs => if cs.all idFree = true then .rc cs else .undef
  | .rp σ x => .rp σ x
  | v => if idFree v = true then v else .undef

/-- What a callee is handed for a parameter of a type. -/
def handed (m : Hp) (τ : Option Ty) : V → V
  | .fn f caps => .fn f (caps.map (handP m))
  | .rp σ x => .rp σ x
  | .rc cs => handP m (.rc cs)
  | .nilp => .nilp
  | v => match τ with
    | none => handP m v
    | some τ => match typed m τ v with
      | some x => .val τ x
      | none => .undef

/-- The boxes that arguments name, as the callee leaves them; each box once. -/
def outsH (args : List V) (offs : List (Nat × Nat)) (used : List Nat) : List (Nat × Bx) → Hp → Option Hp
  | [], m => some m
  | (i, x) :: r, m => match look offs i with
    | none => (match args[i]? with
      | some (.ptr b 0) => if used.contains b then none else match m.at b, x with
        | some (.cs cs), .cs ds => if cs.length = ds.length then outsH args offs (b :: used) r ((b, some (.cs ds)) :: m) else none
        | _, _ => none
      | some (.arr b) => if used.contains b then none else match m.at b, x with
        | some (.rows σ _), .rows τ l' => if σ = τ then outsH args offs (b :: used) r ((b, some (.rows τ l')) :: m) else none
        | _, _ => none
      | _ => none)
    | some off => (match args[i]? with
      | some (.agg cs) => (match cs[off]? with
        | some (.arr b) => if used.contains b then none else if (cs.set off .nil).all idFree = true then (match m.at b, x with
          | some (.rows σ _), .rows τ l' => if σ = τ then outsH args offs (b :: used) r ((b, some (.rows τ l')) :: m) else none
          | _, _ => none) else none
        | _ => none)
      | _ => none)

section
variable {R : Type} (E : Env)

def wT (t : Nat) (K : TL → Option R) : Option R := match look E.L t with
  | some l => K l
  | none => none

def arrs1 : V → List Nat
  | .arr b => [b]
  | _ => []
def arrs : V → List Nat
  | .agg cs => cs.flatMap arrs1
  | .tup cs => cs.flatMap arrs1
  | v => arrs1 v
def namesArr (b : Nat) (v : V) : Bool := (arrs v).contains b

def V.known : V → Bool
  | .undef => false
  | _ => true

def oneV : V → Bool
  | .val τ _ => match τ with
    | .pr _ _ => false
    | .q => false
    | .unit => false
    | _ => true
  | .undef => false
  | .agg _ => false
  | .tup _ => false
  | _ => true

/-- The type of a slice's elements. -/
def wE (t : Nat) (K : TL → Option R) : Option R := wT E t fun l => match l.k with
  | .sl e => wT E e K
  | _ => none

/-- A struct's fields: the place and the type of one, and how many there are. -/
def wF (t f : Nat) (K : Nat → TL → Option R) : Option R := wT E t fun l => match l.k with
  | .st fs => match fs[f]? with
    | some (off, u) => wT E u fun l => K off l
    | none => none
  | _ => none

def opnd (s : St) : Operand → V
  | .tmp t => s.get t
  | .const v => ofVal v
  | .global g => match look E.G g with
    | some cs => .rc cs
    | none => .undef
  | .func f => .fn f []

def pTy (t : Nat) : Option Ty := match look E.L t with
  | some l => match l.k with
    | .ptr _ => none
    | .other => none
    | _ => some l.ty
  | none => none

def handAll (m : Hp) : List V → List Nat → List V
  | v :: vs, t :: ts => handed m (pTy E t) v :: handAll m vs ts
  | v :: vs, [] => handed m none v :: handAll m vs []
  | [], _ => []

def callK (f : Nat) (tys : List Nat) (args : List V) (base : Nat) (m : Hp) (K : V → Hp → Option R) : Option R :=
  match look E.C f with
  | some c => c R (handAll E m args tys) fun r => if apartOk m r.offs r.outs args = true ∧ r.okRes = true then (match outsH args r.offs [] r.outs (if r.hasSl then frzBut r.outs args m else m) with
      | some m => K (shiftV base r.v) (addBoxes base 0 r.bs m)
      | none => none) else none
  | none => none

def builtinK (b : Builtin) (tys : List Nat) (xs : List V) (base : Nat) (m : Hp) (K : V → Hp → Option R) : Option R :=
  match b, tys, xs with
  | .len, t :: _, [x] => wT E t fun tl => match tl.k with
    | .str => (match x with
      | .val .str s => K (.val (.int .i64) (lenS s)) m
      | _ => none)
    | .sl _ => (match x with
      | .val (.sl e) l => K (.val (.int .i64) (lenL (α := D e) l)) m
      | .nil => K (.val (.int .i64) (0 : Int)) m
      | .arr b => (match m.at b with
        | some (.rows e l) => K (.val (.int .i64) (lenL (α := D e) l)) m
        | some (.fz e l) => K (.val (.int .i64) (lenL (α := D e) l)) m
        | _ => none)
      | _ => none)
    | _ => none
  | .append, [t, u], [x, y] => wE E t fun l => wE E u fun _ => match rowsOf m l.ty y with
    | some r => (match x with
      | .nil => iteB (roomL [] r) (K (.arr base) ((base, some (.rows l.ty r)) :: m)) none
      | .arr b => (match m.at b with
        | some (.rows σ q) => (match castD (τ := .sl σ) (σ := .sl l.ty) q with
          | some q => iteB (roomL (α := D l.ty) q r) (K (.arr base) ((base, some (.rows l.ty (appL (α := D l.ty) q r))) :: (b, none) :: m)) none
          | none => none)
        | _ => none)
      | _ => none)
    | none => none
  | .min, _, [.val (.int k) a, .val (.int k') b] => if k = k' then K (.val (.int k) (minI a b)) m else none
  | .max, _, [.val (.int k) a, .val (.int k') b] => if k = k' then K (.val (.int k) (maxI a b)) m else none
  | .min, _, [.val (.int k) a, .val (.int k') b, .val (.int k'') c] => if k = k' ∧ k = k'' then K (.val (.int k) (minI (minI a b) c)) m else none
  | _, _, _ => none

def wI (v : V) (K : Int → Option R) : Option R := match v with
  | .val (.int _) n => K n
  | _ => none

def wOI (s : St) (x : Option Operand) (d : Int) (K : Int → Option R) : Option R := match x with
  | some x => wI (opnd E s x) K
  | none => K d

def partsOf (s : St) (ps : List (Nat × Operand)) : List (Nat × V) := ps.map fun p => (p.1, opnd E s p.2)

def fillAgg (fs : List (Nat × TypeId)) (cs : List V) : List (Nat × V) → Option (List V)
  | [] => some cs
  | (i, v) :: r => match fs[i]? with
    | some (off, u) => match look E.L u with
      | some lu => if v.cells.length = lu.ty.width ∧ off + lu.ty.width ≤ cs.length ∧ v.cells.all oneV = true then
          fillAgg fs (cs.take off ++ v.cells ++ cs.drop (off + lu.ty.width)) r else none
      | none => none
    | none => none

def zeroD (τ : Ty) (cs : List V) (K : D τ → Option R) : Option R := match asm [] τ cs with
  | some (x, []) => K x
  | _ => none

/-- The rows of a literal, part by part. -/
def fillRows (m : Hp) (τ : Ty) (rows : List (D τ)) : List (Nat × V) → Option (List (D τ))
  | [] => some rows
  | (i, v) :: r => match typed m τ v with
    | some x => if i < rows.length then fillRows m τ (rows.set i x) r else none
    | none => none

def loadRp (τ : Ty) (x : D τ) (off : Nat) (l : TL) (m : Hp) (K : V → Hp → Option R) : Option R :=
  match atOff τ x off l.ty with
  | some y => K (.val l.ty y) m
  | none => none

def V.aggy : V → Bool
  | .val τ _ => τ.agg
  | .agg _ => true
  | _ => false

/-- May two values of a struct be held against each other, field by field? -/
def structEq (fs : List (Nat × TypeId)) (a b : V) : Bool :=
  decide (fs.map (·.1) = List.range fs.length) && a.aggy && b.aggy

/-- A variable out of a row of cells. -/
def cellK (l : TL) (cs : List V) (off : Nat) (m : Hp) (K : V → Hp → Option R) : Option R :=
  match l.ty.agg with
  | true => if off + l.ty.width ≤ cs.length then K (.agg ((cs.drop off).take l.ty.width)) m else none
  | false => match cs[off]? with
    | some v => K v m
    | none => none

def opK (o : Op) (base : Nat) (s : St) (K : V → Hp → Option R) : Option R :=
  match o with
  | .move x => K (opnd E s x) s.m
  | .assign x => K (opnd E s x) s.m
  | .pick c a b => match opnd E s c with
    | .val .bool t => iteB t (K (opnd E s a) s.m) (K (opnd E s b) s.m)
    | _ => none
  | .alloc t => wT E t fun l => K (.ptr base 0) ((base, some (.cs l.zero)) :: s.m)
  | .box t x => wT E t fun l =>
    if (opnd E s x).cells.length = l.ty.width ∧ (opnd E s x).known = true then K (.ptr base 0) ((base, some (.cs (opnd E s x).cells)) :: s.m) else none
  | .build t parts => wT E t fun l => match l.k with
    | .st fs => match fillAgg E fs l.zero (partsOf E s parts.toList) with
      | some cs => K (.agg cs) s.m
      | none => none
    | _ => none
  | .buildSlice t len parts => wE E t fun l => if 2 ^ 20 < len * l.ty.width then none else zeroD l.ty l.zero fun z => match fillRows s.m l.ty (List.replicate len z) (partsOf E s parts.toList) with
    | some r => K (.arr base) ((base, some (.rows l.ty r)) :: ((partsOf E s parts.toList).map (·.2)).foldl frz s.m)
    | none => none
  | .load t a => wT E t fun l => match opnd E s a with
    | .ptr b off => match s.m.at b with
      | some (.cs cs) => cellK l cs off s.m K
      | _ => none
    | .rc cs => cellK l cs 0 s.m K
    | .rp τ x => loadRp τ x 0 l s.m K
    | .ep b i off => match s.m.at b with
      | some (.rows τ r) => bindO (atL (α := D τ) r i) fun x => loadRp τ x off l s.m K
      | some (.fz τ r) => bindO (atL (α := D τ) r i) fun x => loadRp τ x off l s.m K
      | _ => none
    | _ => none
  | .store t a x => wT E t fun l => match opnd E s a with
    | .ptr b off => match s.m.at b with
      | some (.cs cs) => if (opnd E s x).cells.length = l.ty.width ∧ off + l.ty.width ≤ cs.length ∧ (opnd E s x).cells.all oneV = true then
            K (.tup []) ((b, some (.cs (cs.take off ++ (opnd E s x).cells ++ cs.drop (off + l.ty.width)))) :: s.m) else none
      | _ => none
    | .ep b i off => match s.m.at b with
      | some (.rows τ r) => match typed s.m l.ty (opnd E s x) with
        | some y => if namesArr b (opnd E s x) = true then none else bindO (atL (α := D τ) r i) fun z => match setOff τ z off l.ty y with
          | some z' => K (.tup []) ((b, some (.rows τ (setL (α := D τ) r i z'))) :: frz s.m (opnd E s x))
          | none => none
        | none => none
      | _ => none
    | _ => none
  | .nilCheck x => match opnd E s x with
    | .ptr b off => K (.ptr b off) s.m
    | .rc cs => K (.rc cs) s.m
    | .rp τ y => K (.rp τ y) s.m
    | .ep b i off => K (.ep b i off) s.m
    | .fn f caps => K (.fn f caps) s.m
    | _ => none
  | .binOp op xt x y _ => match opnd E s x, opnd E s y with
    | .val (.int k) a, .val (.int k') b => if k = k' then (match op with
        | .quo => iteB (eqI b 0) none (K (.val (.int k) (divI k a b)) s.m)
        | .rem => iteB (eqI b 0) none (K (.val (.int k) (modI a b)) s.m)
        | op => match binI op k a b with
          | some v => K v s.m
          | none => none) else none
    | .val .str a, .val .str b => match op with
      | .add => iteB (roomS a b) (K (.val .str (catS a b)) s.m) none
      | op => match binS op a b with
        | some v => K v s.m
        | none => none
    | .val .bool a, .val .bool b => wT E xt fun l => match l.k with
      | .bool => (match op with
        | .eql => K (.val .bool (eqBo a b)) s.m
        | .neq => K (.val .bool (notB (eqBo a b))) s.m
        | _ => none)
      | _ => none
    | .val .err a, .val .err _ => wT E xt fun l => match l.k with
      | .err => (match y with
        | .const .nilIface => (match op with
          | .eql => K (.val .bool (notB a)) s.m
          | .neq => K (.val .bool a) s.m
          | _ => none)
        | _ => none)
      | _ => none
    | a, b => wT E xt fun l => match l.k with
      | .st fs => if structEq fs a b = true then (match eqL E.L (fs.map (·.2)) a.cells b.cells with
          | some c => (match op with
            | .eql => K (.val .bool c) s.m
            | .neq => K (.val .bool (notB c)) s.m
            | _ => none)
          | none => none) else none
      | _ => none
  | .unOp op _ x => match op, opnd E s x with
    | .not, .val .bool b => K (.val .bool (notB b)) s.m
    | .neg, .val (.int k) n => K (.val (.int k) (negI k n)) s.m
    | _, _ => none
  | .convert src dst x => wT E src fun ls => wT E dst fun l => match l.k with
    | .int k => (match opnd E s x with
      | .val (.int _) n => K (.val (.int k) (convI k n)) s.m
      | _ => none)
    | .sl e => wT E e fun le => (match ls.k, le.k with
      | .str, .int .u8 => (match opnd E s x with
        | .val .str a => K (.arr base) ((base, some (.rows (.int .u8) (rowOfS a))) :: s.m)
        | _ => none)
      | _, _ => none)
    | .str => (match ls.k with
      | .sl e => wT E e fun le => (match le.k with
        | .int .u8 => (match rowsOf s.m (.int .u8) (opnd E s x) with
          | some r => K (.val .str (strOf r)) s.m
          | none => none)
        | _ => none)
      | _ => none)
    | _ => none
  | .fieldAddr t x f => wF E t f fun off l => match opnd E s x with
    | .ptr b o => K (.ptr b (o + off)) s.m
    | .ep b i o => K (.ep b i (o + off)) s.m
    | .rc cs => K (.rc (cs.drop off)) s.m
    | .rp τ x => match atOff τ x off l.ty with
      | some y => K (.rp l.ty y) s.m
      | none => none
    | _ => none
  | .field t x f => wF E t f fun off l => match opnd E s x with
    | .val τ x => if τ.agg = true then loadRp τ x off l s.m K else none
    | .agg cs => cellK l cs off s.m K
    | _ => none
  | .indexAddr t x i => wE E t fun tl => wI (opnd E s i) fun n => match opnd E s x with
    | .arr b => (match s.m.at b with
      | some (.rows τ l) => if τ = tl.ty then iteB (leI 0 n) (iteB (ltI n (lenL (α := D τ) l)) (K (.ep b n 0) s.m) none) none else none
      | some (.fz τ l) => if τ = tl.ty then bindO (atL (α := D τ) l n) fun x => K (.rp τ x) s.m else none
      | _ => none)
    | .val (.sl e) l => if e = tl.ty then bindO (atL (α := D e) l n) fun x => K (.rp e x) s.m else none
    | _ => none
  | .index t x i => wT E t fun tl => wI (opnd E s i) fun n => match tl.k with
    | .str => (match opnd E s x with
      | .val .str a => bindO (atS a n) fun b => K (.val (.int .u8) b) s.m
      | _ => none)
    | _ => none
  | .slice t x lo hi mx => match mx with
    | some _ => none
    | none => wT E t fun tl => match tl.k with
      | .str => (match opnd E s x with
        | .val .str a => wOI E s lo 0 fun l => wOI E s hi (lenS a) fun h => iteB (okCut l h (lenS a)) (K (.val .str (cutS a l h)) s.m) none
        | _ => none)
      | .sl e => wT E e fun tl => (match rowsOf s.m tl.ty (opnd E s x) with
        | some r => wOI E s lo 0 fun l => wOI E s hi (lenL r) fun h => iteB (okCut l h (lenL r)) (K (.val (.sl tl.ty) (cutL r l h)) (frz s.m (opnd E s x))) none
        | none => none)
      | _ => none
  | .makeSlice t l c => wE E t fun tl => zeroD tl.ty tl.zero fun z => wI (opnd E s l) fun n => wI (opnd E s c) fun k =>
      iteB (eqI n k) (iteB (roomN n) (K (.arr base) ((base, some (.rows tl.ty (repL (α := D tl.ty) n z))) :: s.m)) none) none
  | .extract x i => match opnd E s x with
    | .tup vs => match vs[i]? with
      | some v => K v s.m
      | none => none
    | _ => none
  | .makeFunc (.func f) first caps => match first.toList with
    | [] => K (.fn f (caps.toList.map (opnd E s))) s.m
    | _ => none
  | .call c => match c.callee with
    | .builtin b => builtinK E b c.argTypes.toList (c.args.toList.map (opnd E s)) base s.m K
    | .value f => match opnd E s f with
      | .fn g caps => callK E g c.argTypes.toList (c.args.toList.map (opnd E s) ++ caps) base s.m K
      | _ => none
    | _ => none
  | _ => none

/-- Box numbers for one operation. -/
def stride : Nat := 64

def opsK (ops : Array Oper) : List Oper → Nat → St → (St → Option R) → Option R
  | [], base, s, K => K { s with n := base }
  | o :: r, base, s, K => match o.guard with
    | none => opK E o.op base s fun v m => opsK ops r (base + stride) ({ s with m := m }.put o.dst v) K
    | some (j, want) => match ops[j]? with
      | none => none
      | some oj => match oj.dst with
        | none => none
        | some d => match s.get d with
          | .val .bool b =>
            match want with
            | true => iteB b (opK E o.op base (s.put (some d) (.val .bool true)) fun v m => opsK ops r (base + stride) ({ s.put (some d) (.val .bool true) with m := m }.put o.dst v) K)
                (opsK ops r (base + stride) ((s.put (some d) (.val .bool false)).put o.dst (.tup [])) K)
            | false => iteB b (opsK ops r (base + stride) ((s.put (some d) (.val .bool true)).put o.dst (.tup [])) K)
                (opK E o.op base (s.put (some d) (.val .bool false)) fun v m => opsK ops r (base + stride) ({ s.put (some d) (.val .bool false) with m := m }.put o.dst v) K)
          | .tup [] => opsK ops r (base + stride) (s.put o.dst (.tup [])) K
          | _ => none

/-- The numbers that a value names. -/
def namesV : V → List Nat
  | .arr b => [b]
  | .ptr b _ => [b]
  | .ep b _ _ => [b]
  | _ => []
/-- What an operation may read. -/
def readsM : Op → Bool
  | .move _ => false
  | .assign _ => false
  | .pick _ _ _ => false
  | .build _ _ => false
  | .nilCheck _ => false
  | .binOp _ _ _ _ _ => false
  | .unOp _ _ _ => false
  | .fieldAddr _ _ _ => false
  | .extract _ _ => false
  | .makeFunc _ _ _ => false
  | _ => true
def namesO (s : St) (o : Op) : List Nat := if readsM o = true then o.operands.toList.flatMap fun x => namesV (opnd E s x) else []
def touched (m m' : Hp) : List Nat := (m'.take (m'.length - m.length)).map (·.1)

/-- What was read early is not written by an operation that might have come before. -/
def protOk (prot : List (Nat × List Nat)) (o : Oper) (m m' : Hp) : Bool :=
  prot.all fun p => (o.after.any fun e => Region.binds .any e && e.on == p.1) || p.2.all fun b => !(touched m m').contains b

/-- What moves no memory where it changes none: this is looked at as it is run. -/
def quietOp : Op → Bool
  | .slice _ _ _ _ _ => true
  | .convert _ _ _ => true
  | _ => false
def quietOk (early : Bool) (o : Oper) (m m' : Hp) : Bool := !(early && quietOp o.op) || (touched m m').isEmpty

/-- A region whose order is drawn, in one order of those. 'true': an operation that only reads, taken early. -/
def drawK (ops : Array Oper) : List (Nat × Bool) → List (Nat × List Nat) → Nat → St → (St → Option R) → Option R
  | [], _, base, s, K => K { s with n := base + stride * ops.size }
  | (i, early) :: r, prot, base, s, K => match ops[i]? with
    | none => none
    | some o => match o.guard with
      | none => opK E o.op (base + stride * i) s fun v m => if (protOk prot o s.m m && quietOk early o s.m m) = true then
          drawK ops r (if early = true then (i, namesO E s o.op) :: prot else prot) base ({ s with m := m }.put o.dst v) K else none
      | some (j, want) => match ops[j]? with
        | none => none
        | some oj => match oj.dst with
          | none => none
          | some d => match s.get d with
            | .val .bool b =>
              match want with
              | true => iteB b (opK E o.op (base + stride * i) (s.put (some d) (.val .bool true)) fun v m => if (protOk prot o s.m m && quietOk early o s.m m) = true then
                    drawK ops r (if early = true then (i, namesO E s o.op) :: prot else prot) base ({ s.put (some d) (.val .bool true) with m := m }.put o.dst v) K else none)
                  (drawK ops r prot base ((s.put (some d) (.val .bool false)).put o.dst (.tup [])) K)
              | false => iteB b (drawK ops r prot base ((s.put (some d) (.val .bool true)).put o.dst (.tup [])) K)
                  (opK E o.op (base + stride * i) (s.put (some d) (.val .bool false)) fun v m => if (protOk prot o s.m m && quietOk early o s.m m) = true then
                    drawK ops r (if early = true then (i, namesO E s o.op) :: prot else prot) base ({ s.put (some d) (.val .bool false) with m := m }.put o.dst v) K else none)
            | .tup [] => drawK ops r prot base (s.put o.dst (.tup [])) K
            | _ => none
end

/-! The state, made canonical: what is live alone, own memory numbered anew. -/

structure Acc where
  ren : List (Nat × Nat)
  m : Hp
  n : Nat

def accMap (f : V → Acc → V × Acc) : List V → Acc → List V × Acc
  | [], a => ([], a)
  | v :: r, a => match f v a with
    | (v', a) => match accMap f r a with
      | (r', a) => (v' :: r', a)

def canV (m : Hp) : Nat → V → Acc → V × Acc
  | 0, _, a => (.undef, a)
  | k + 1, v, a => match v with
    | .arr b => match look a.ren b with
      | some c => (.arr c, a)
      | none => match m.at b with
        | some (.rows τ l) => (.arr a.n, { ren := (b, a.n) :: a.ren, m := (a.n, some (.rows τ l)) :: a.m, n := a.n + 1 })
        | some (.fz τ l) => (.arr a.n, { ren := (b, a.n) :: a.ren, m := (a.n, some (.fz τ l)) :: a.m, n := a.n + 1 })
        | _ => (.undef, a)
    | .ptr b off => match look a.ren b with
      | some c => (.ptr c off, a)
      | none => match m.at b with
        | some (.cs cs) => match accMap (canV m k) cs { ren := (b, a.n) :: a.ren, m := a.m, n := a.n + 1 } with
          | (cs', a') => (.ptr a.n off, { a' with m := (a.n, some (.cs cs')) :: a'.m })
        | _ => (.undef, a)
    | .ep _ _ _ => (.undef, a)
    | .agg cs => match accMap (canV m k) cs a with
      | (cs, a) => (.agg cs, a)
    | .tup cs => match accMap (canV m k) cs a with
      | (cs, a) => (.tup cs, a)
    | .rc cs => match accMap (canV m k) cs a with
      | (cs, a) => (.rc cs, a)
    | .fn f cs => match accMap (canV m k) cs a with
      | (cs, a) => (.fn f cs, a)
    | v => (v, a)

def canT (s : St) : List Nat → Acc → List (Nat × V) × Acc
  | [], a => ([], a)
  | t :: r, a => match canV s.m 4 (s.get t) a with
    | (v, a) => match canT s r a with
      | (ts, a) => ((t, v) :: ts, a)

/-- The boxes that keep their numbers. -/
def keepB (m : Hp) : List Nat → Acc → Acc
  | [], a => a
  | i :: r, a => match m.at i with
    | some (.cs cs) => match accMap (canV m 4) cs a with
      | (cs', a') => keepB m r { a' with m := (i, some (.cs cs')) :: a'.m }
    | some (.rows τ l) => keepB m r { a with m := (i, some (.rows τ l)) :: a.m }
    | some (.fz τ l) => keepB m r { a with m := (i, some (.fz τ l)) :: a.m }
    | none => keepB m r a

def boundOf : List Nat → Nat
  | [] => 0
  | i :: r => max (i + 1) (boundOf r)

def canon (kp live : List Nat) (s : St) : St := match canT s live (keepB s.m kp { ren := kp.map fun i => (i, i), m := [], n := boundOf kp }) with
  | (ts, a) => { t := ts, m := a.m, n := a.n }

/-! The code. -/

inductive Ex | normal | exit (id : Nat) | ret

/-- The limit of a chain. -/
noncomputable def lim {R : Type} (f : Nat → Option R) : Option R :=
  open Classical in if h : ∃ r, ∃ k, f k = some r then some (Classical.choose h) else none

/-- A function that is not unfolded. -/
theorem hide_ex {α β : Type} (f : α → β) : ∃ g, g = f := ⟨f, rfl⟩
noncomputable def hide {α β : Type} (f : α → β) : α → β := Classical.choose (hide_ex f)
theorem hide_eq {α β : Type} (f : α → β) : hide f = f := Classical.choose_spec (hide_ex f)

abbrev Kt (R : Type) := Ex → St → Option R

/-- The orders of a region: what may be taken. -/
inductive Sc
  | done
  | one (i : Nat) (early : Bool) (r : Sc)
  | or (a b : Sc)

def Sc.lin : Sc → List (List (Nat × Bool))
  | .done => [[]]
  | .one i e r => r.lin.map fun l => (i, e) :: l
  | .or a b => a.lin ++ b.lin

def Sc.heads : Sc → List Nat
  | .done => []
  | .one i _ _ => [i]
  | .or a b => a.heads ++ b.heads

structure Ann where
  lp : List (Nat × List Nat)
  jn : List (Nat × List Nat)
  /-- The order for a region whose order is drawn. -/
  sc : List (Nat × List (Nat × Bool))
  /-- The boxes that were handed in place. -/
  kp : List Nat
  /-- The orders for a region where one is not enough, and what is live ahead of it and behind it, what is not written any more. -/
  fk : List (Nat × Sc × List Nat × List Nat × List Nat) := []

def firstR : Code → Option Nat
  | .region id _ _ => some id
  | .seq a _ => firstR a
  | .block _ a => firstR a
  | .loop a => firstR a
  | _ => none

def canAt (kp : List Nat) (tab : List (Nat × List Nat)) (c : Code) (s : St) : St := match firstR c with
  | some id => match look tab id with
    | some live => canon kp live s
    | none => s
  | none => s

section
variable {R : Type} (E : Env) (A : Ann)

def frzS (ts : List Nat) (s : St) : St := { s with m := ts.foldl (fun m t => frz m (s.get t)) s.m }

def forkL (ops : Array Oper) (base : Nat) (s : St) (C : St → Option St) (o0 : List (Nat × Bool)) : List (List (Nat × Bool)) → Prop
  | [] => True
  | o :: r => drawK E ops o [] base s C = drawK E ops o0 [] base s C ∧ forkL ops base s C o0 r

/-- A region, in one of its orders, where all come to the same. -/
noncomputable def orK (kp live : List Nat) (ops : Array Oper) (t : Sc) (base : Nat) (s : St) (K : St → Option R) : Option R := match t.lin with
  | [] => none
  | o0 :: r => open Classical in if forkL E ops base s (fun s => some (canon kp live s)) o0 r then drawK E ops o0 [] base s (fun s => K (canon kp live s)) else none

/-- A region of several orders, at a state made canonical. -/
noncomputable def orP (A : Ann) (ops : Array Oper) (p : Sc × List Nat × List Nat × List Nat) (s : St) (K : St → Option R) : Option R :=
  orK E A.kp p.2.2.1 ops p.1 (frzS p.2.2.2 s).n (frzS p.2.2.2 s) K

/-- The second of two pieces of code, where the first is done. -/
noncomputable def joinK (A : Ann) (b : Code) (rb : St → Kt R → Option R) (κ : Kt R) (s : St) : Option R := match firstR b with
  | some id => match look A.jn id with
    | some live => hide (fun s => rb s κ) (canon A.kp live s)
    | none => rb s κ
  | none => rb s κ

noncomputable def seqK (A : Ann) (b : Code) (rb : St → Kt R → Option R) (κ : Kt R) : Kt R
  | .normal, s => joinK A b rb κ s
  | .exit id, s => κ (.exit id) s
  | .ret, s => κ .ret s

def blockK (id : Nat) (κ : Kt R) : Kt R
  | .exit j, s => if j = id then κ .normal s else κ (.exit j) s
  | .normal, s => κ .normal s
  | .ret, s => κ .ret s

def loopK (A : Ann) (a : Code) (rec : St → Option R) (κ : Kt R) : Kt R
  | .normal, s => rec (canAt A.kp A.lp a s)
  | .exit id, s => κ (.exit id) s
  | .ret, s => κ .ret s

def iter (A : Ann) (a : Code) (B : St → Kt R → Option R) (κ : Kt R) : Nat → St → Option R
  | 0, _ => none
  | k + 1, s => B s (loopK A a (iter A a B κ k) κ)

noncomputable def loopR (A : Ann) (a : Code) (B : St → Kt R → Option R) (κ : Kt R) (s : St) : Option R := hide (fun s => lim fun k => iter A a B κ k s) s

noncomputable def run : Code → St → Kt R → Option R
  | .skip, s, κ => κ .normal s
  | .region id ops d, s, κ => match d with
    | false => opsK E ops ops.toList s.n s (κ .normal)
    | true => match look A.fk id with
      | some p => hide (fun s => orP E A ops p s (κ .normal)) (canon A.kp p.2.1 s)
      | none => match look A.sc id with
        | some ord => drawK E ops ord [] s.n s (κ .normal)
        | none => none
  | .seq a b, s, κ => run a s (seqK A b (run b) κ)
  | .cond c a b, s, κ => match opnd E s c with
    | .val .bool t => match c with
      | .tmp d => iteB t (run a (s.put (some d) (.val .bool true)) κ) (run b (s.put (some d) (.val .bool false)) κ)
      | _ => iteB t (run a s κ) (run b s κ)
    | _ => none
  | .block id a, s, κ => run a s (blockK id κ)
  | .loop a, s, κ => loopR A a (run a) κ (canAt A.kp A.lp a s)
  | .exit id, s, κ => κ (.exit id) s
  | .ret, s, κ => κ .ret s
  | _, _, _ => none

def subAt : Code → List Nat → Code
  | c, [] => c
  | .seq a b, k :: p => if k = 0 then subAt a p else subAt b p
  | .cond _ a b, k :: p => if k = 0 then subAt a p else subAt b p
  | .block _ a, _ :: p => subAt a p
  | .loop a, _ :: p => subAt a p
  | c, _ => c

/-- What comes behind a place in the code. -/
noncomputable def contAt : Code → List Nat → Kt R → Kt R
  | _, [], κ => κ
  | .seq a b, k :: p, κ => if k = 0 then contAt a p (seqK A b (run E A b) κ) else contAt b p κ
  | .cond _ a b, k :: p, κ => if k = 0 then contAt a p κ else contAt b p κ
  | .block id a, _ :: p, κ => contAt a p (blockK id κ)
  | .loop a, _ :: p, κ => contAt a p (loopK A a (loopR A a (run E A a) κ) κ)
  | _, _ :: _, κ => κ
end

/-! What a function takes and leaves. -/

inductive RO
  | val (τ : Ty)
  | own (τ : Ty)
  | st (τ : Ty)
  /-- A struct, one field of which is a row of the function's own. -/
  | mx (τ : Ty) (off : Nat) (σ : Ty) (es : List Nat)

def RO.ty : RO → Ty
  | .val τ => τ
  | .own τ => .sl τ
  | .st τ => τ
  | .mx τ _ _ _ => τ

/-- What a closure holds. -/
inductive CT
  | val (τ : Ty)
  | rc (τ : Ty)

def CT.ty : CT → Ty
  | .val τ => τ
  | .rc τ => τ

inductive PT
  | val (τ : Ty)
  | st (τ : Ty)
  | io (τ : Ty)
  | rc (τ : Ty)
  | fn (f : Nat) (cs : List CT)
  | mx (τ : Ty) (off : Nat) (σ : Ty)

def PT.ty : PT → Ty
  | .val τ => τ
  | .st τ => τ
  | .io τ => .sl τ
  | .rc τ => τ
  | .fn _ cs => tupTy (cs.map CT.ty)
  | .mx τ _ _ => τ

def capV : (c : CT) → D c.ty → V
  | .val τ, x => .val τ x
  | .rc τ, x => .rc (leafs τ x)

def capsV : (cs : List CT) → D (tupTy (cs.map CT.ty)) → List V
  | [], _ => []
  | [c], x => [capV c x]
  | c :: d :: r, x => capV c x.1 :: capsV (d :: r) x.2

def outTys : List PT → List Ty
  | .st τ :: r => τ :: outTys r
  | .io τ :: r => .sl τ :: outTys r
  | .val _ :: r => outTys r
  | .rc _ :: r => outTys r
  | .fn _ _ :: r => outTys r
  | .mx _ _ σ :: r => .sl σ :: outTys r
  | [] => []

/-- What a result variable holds. -/
def rvV (E : Env) (s : St) : ResultVar → V
  | .tmp t => s.get t
  | .cell a t => match look E.L t, s.get a with
    | some l, .ptr b off => match s.m.at b with
      | some (.cs cs) => match cellK l cs off s.m (fun v _ => some v) with
        | some v => v
        | none => .undef
      | _ => .undef
    | _, _ => .undef

/-- A row among cells. -/
def rowAt (cs : List V) (off : Nat) (σ : Ty) : Option (List (D σ)) := match cs[off]? with
  | some (.val τ l) => castD (τ := τ) (σ := .sl σ) l
  | _ => none

def ownAt (m : Hp) (cs : List V) (off : Nat) (σ : Ty) : Bool := match cs[off]? with
  | some .nil => true
  | some (.arr b) => (match m.at b with
    | some (.rows τ _) => decide (τ = σ)
    | _ => false)
  | _ => false

/-- Rows among cells, emptied. -/
def empV : V → V
  | .val (.sl e) _ => .val (.sl e) []
  | v => v
def empL (cs : List V) : List Nat → List V
  | [] => cs
  | i :: r => match cs[i]? with
    | some v => empL (cs.set i (empV v)) r
    | none => empL cs r
def isEmpV : V → Bool
  | .val (.sl _) l => match l with
    | [] => true
    | _ => false
  | _ => true
def empOk (cs : List V) : List Nat → Bool
  | [] => true
  | i :: r => (match cs[i]? with
    | some v => isEmpV v
    | none => true) && empOk cs r

/-- One result. -/
def getRO (m : Hp) (v : V) : (o : RO) → Option (D o.ty)
  | .val τ => typed m τ v
  | .own τ => match v with
    | .nil => some ([] : List (D τ))
    | .arr b => match m.at b with
      | some (.rows σ l) => castD (τ := .sl σ) (σ := .sl τ) l
      | _ => none
    | _ => none
  | .st τ => match v with
    | .ptr b 0 => match m.at b with
      | some (.cs cs) => match asm m τ cs with
        | some (x, []) => some x
        | _ => none
      | _ => none
    | _ => none
  | .mx τ off σ es => match v with
    | .agg cs => if ownAt m cs off σ = true ∧ τ.agg = true then (match asm m τ cs with
      | some (x, []) => if empOk (leafs τ x) es = true then (match rowAt (leafs τ x) off σ with
        | some _ => some x
        | none => none) else none
      | _ => none) else none
    | _ => none

/-- Own memory that is handed back. -/
def ownId (v : V) : RO → Option Nat
  | .val _ => none
  | .mx _ off _ _ => match v with
    | .agg cs => (cs[off]?).bind idArr
    | _ => none
  | _ => idOf v
/-- Rows that values which are handed back lie in. -/
def cellsArr (m : Hp) (b : Nat) : List Nat := match m.at b with
  | some (.cs cs) => cs.flatMap arrs1
  | _ => []
def valArr (m : Hp) (v : V) : RO → List Nat
  | .val _ => arrs v
  | .own _ => []
  | .st _ => match v with
    | .ptr b _ => cellsArr m b
    | _ => []
  | .mx _ off _ _ => match v with
    | .agg cs => (cs.set off .nil).flatMap arrs1
    | _ => []

/-- What the pointers that came in lead to: parameter i's box bears number i. -/
def getOut (s : St) (i : Nat) (τ : Ty) : Option (D τ) := match s.m.at i with
  | some (.cs cs) => match asm s.m τ cs with
    | some (x, []) => some x
    | _ => none
  | _ => none

def getIo (s : St) (i : Nat) (τ : Ty) : Option (D (.sl τ)) := match s.m.at i with
  | some (.rows σ l) => castD (τ := .sl σ) (σ := .sl τ) l
  | _ => none

def consT {τ : Ty} (x : D τ) : (ts : List Ty) → D (tupTy ts) → D (tupTy (τ :: ts))
  | [], _ => x
  | _ :: _, r => (x, r)

def getOuts (s : St) : (i : Nat) → (ps : List PT) → Option (D (tupTy (outTys ps)))
  | _, [] => some ()
  | i, .val _ :: ps => getOuts s (i + 1) ps
  | i, .rc _ :: ps => getOuts s (i + 1) ps
  | i, .fn _ _ :: ps => getOuts s (i + 1) ps
  | i, .st τ :: ps => match getOut s i τ with
    | some x => match getOuts s (i + 1) ps with
      | some r => some (consT x _ r)
      | none => none
    | none => none
  | i, .io τ :: ps => match getIo s i τ with
    | some x => match getOuts s (i + 1) ps with
      | some r => some (consT x _ r)
      | none => none
    | none => none
  | i, .mx _ _ τ :: ps => match getIo s i τ with
    | some x => match getOuts s (i + 1) ps with
      | some r => some (consT x _ r)
      | none => none
    | none => none

def getAll (E : Env) (s : St) (ps : List PT) : (ros : List (ResultVar × RO)) → Option (D (tupTy (ros.map (·.2.ty) ++ outTys ps)))
  | [] => getOuts s 0 ps
  | (t, o) :: r => match getRO s.m (rvV E s t) o with
    | some x => match getAll E s ps r with
      | some y => some (consT x _ y)
      | none => none
    | none => none

/-- The parameters that are handed in place. -/
def keys : (i : Nat) → List PT → List Nat
  | _, [] => []
  | i, .st _ :: ps => i :: keys (i + 1) ps
  | i, .io _ :: ps => i :: keys (i + 1) ps
  | i, .mx _ _ _ :: ps => i :: keys (i + 1) ps
  | i, _ :: ps => keys (i + 1) ps

/-- The fields that are handed in place. -/
def offsK : (i : Nat) → List PT → List (Nat × Nat)
  | _, [] => []
  | i, .mx _ off _ :: ps => (i, off) :: offsK (i + 1) ps
  | i, _ :: ps => offsK (i + 1) ps

def nodupB : List Nat → Bool
  | [] => true
  | i :: r => !r.contains i && nodupB r

/-- Nothing that is handed back is handed back twice. -/
def retOk (E : Env) (s : St) (ps : List PT) (ros : List (ResultVar × RO)) : Bool :=
  let own := ros.filterMap (fun p => ownId (rvV E s p.1) p.2)
  nodupB (own ++ keys 0 ps) && (ros.flatMap (fun p => valArr s.m (rvV E s p.1) p.2) ++ (keys 0 ps).flatMap (cellsArr s.m)).all fun b => !(own ++ keys 0 ps).contains b

/-- The end of a function. -/
def retK (E : Env) (ps : List PT) (ros : List (ResultVar × RO)) : Kt (D (tupTy (ros.map (·.2.ty) ++ outTys ps)))
  | .ret, s => if retOk E s ps ros = true then getAll E s ps ros else none
  | .normal, s => if retOk E s ps ros = true then getAll E s ps ros else none
  | .exit _, _ => none

/-- The state in which a function begins. -/
def initT : (i : Nat) → (ps : List PT) → D (tupTy (ps.map PT.ty)) → List (Nat × V) × Hp
  | _, [], _ => ([], [])
  | i, [p], x => match p with
    | .val τ => ([(i, .val τ x)], [])
    | .st τ => ([(i, .ptr i 0)], [(i, some (.cs (leafs τ x)))])
    | .io τ => ([(i, .arr i)], [(i, some (.rows τ x))])
    | .rc τ => ([(i, .rc (leafs τ x))], [])
    | .fn f cs => ([(i, .fn f (capsV cs x))], [])
    | .mx τ off σ => match rowAt (leafs τ x) off σ with
      | some l => ([(i, .agg ((leafs τ x).set off (.arr i)))], [(i, some (.rows σ l))])
      | none => ([], [])
  | i, p :: q :: r, x => match initT (i + 1) (q :: r) x.2 with
    | (ts, m) => match p with
      | .val τ => ((i, .val τ x.1) :: ts, m)
      | .st τ => ((i, .ptr i 0) :: ts, (i, some (.cs (leafs τ x.1))) :: m)
      | .io τ => ((i, .arr i) :: ts, (i, some (.rows τ x.1)) :: m)
      | .rc τ => ((i, .rc (leafs τ x.1)) :: ts, m)
      | .fn f cs => ((i, .fn f (capsV cs x.1)) :: ts, m)
      | .mx τ off σ => match rowAt (leafs τ x.1) off σ with
        | some l => ((i, .agg ((leafs τ x.1).set off (.arr i))) :: ts, (i, some (.rows σ l)) :: m)
        | none => (ts, m)

def initS (ps : List PT) (x : D (tupTy (ps.map PT.ty))) : St := match initT 0 ps x with
  | (ts, m) => { t := ts, m := m, n := ps.length }

/-- A function, as it is run. -/
noncomputable def fnR (E : Env) (A : Ann) (c : Code) (ps : List PT) (ros : List (ResultVar × RO)) (x : D (tupTy (ps.map PT.ty))) : Option (D (tupTy (ros.map (·.2.ty) ++ outTys ps))) :=
  run E A c (initS ps x) (retK E ps ros)

/-! The entry by which others call it. -/

def takeCap : (c : CT) → V → Option (D c.ty)
  | .val τ, .val σ x => castD x
  | .rc τ, .rc cs => match asm [] τ cs with
    | some (x, []) => some x
    | _ => none
  | _, _ => none

def takeCaps : (cs : List CT) → List V → Option (D (tupTy (cs.map CT.ty)))
  | [], [] => some ()
  | [c], [v] => takeCap c v
  | c :: d :: r, v :: vs => match takeCap c v with
    | some x => match takeCaps (d :: r) vs with
      | some y => some (x, y)
      | none => none
    | none => none
  | _, _ => none

def takeArg : (p : PT) → V → Option (D p.ty)
  | .val τ, .val σ x => castD x
  | .io τ, .val σ x => castD x
  | .st τ, .rc cs => match asm [] τ cs with
    | some (x, []) => some x
    | _ => none
  | .rc τ, .rc cs => match asm [] τ cs with
    | some (x, []) => some x
    | _ => none
  | .fn f cs, .fn g caps => if f = g then takeCaps cs caps else none
  | .mx τ off σ, .val ρ x => match castD (τ := ρ) (σ := τ) x with
    | some x => if τ.agg = true then (match rowAt (leafs τ x) off σ with
      | some _ => some x
      | none => none) else none
    | none => none
  | _, _ => none

def takeArgs : (ps : List PT) → List V → Option (D (tupTy (ps.map PT.ty)))
  | [], [] => some ()
  | [p], [v] => takeArg p v
  | p :: q :: r, v :: vs => match takeArg p v with
    | some x => match takeArgs (q :: r) vs with
      | some y => some (x, y)
      | none => none
    | none => none
  | _, _ => none

def headT {τ : Ty} : (ts : List Ty) → D (tupTy (τ :: ts)) → D τ
  | [], x => x
  | _ :: _, x => x.1
def tailT {τ : Ty} : (ts : List Ty) → D (tupTy (τ :: ts)) → D (tupTy ts)
  | [], _ => ()
  | _ :: _, x => x.2

def outsOf : (i : Nat) → (ps : List PT) → D (tupTy (outTys ps)) → List (Nat × Bx)
  | _, [], _ => []
  | i, .val _ :: ps, x => outsOf (i + 1) ps x
  | i, .rc _ :: ps, x => outsOf (i + 1) ps x
  | i, .fn _ _ :: ps, x => outsOf (i + 1) ps x
  | i, .st τ :: ps, x => (i, .cs (leafs τ (headT (τ := τ) _ x))) :: outsOf (i + 1) ps (tailT (τ := τ) _ x)
  | i, .io τ :: ps, x => (i, .rows τ (headT (τ := .sl τ) _ x)) :: outsOf (i + 1) ps (tailT (τ := .sl τ) _ x)
  | i, .mx _ _ τ :: ps, x => (i, .rows τ (headT (τ := .sl τ) _ x)) :: outsOf (i + 1) ps (tailT (τ := .sl τ) _ x)

def resParts (ps : List PT) : (ros : List (ResultVar × RO)) → D (tupTy (ros.map (·.2.ty) ++ outTys ps)) → Nat → List V × List Bx × List (Nat × Bx)
  | [], x, _ => ([], [], outsOf 0 ps x)
  | (t, o) :: r, x, k => match o with
    | .val τ => match resParts ps r (tailT _ x) k with
      | (vs, bs, os) => (.val τ (headT _ x) :: vs, bs, os)
    | .own τ => match resParts ps r (tailT _ x) (k + 1) with
      | (vs, bs, os) => (.arr k :: vs, .rows τ (headT (τ := .sl τ) _ x) :: bs, os)
    | .st τ => match resParts ps r (tailT _ x) (k + 1) with
      | (vs, bs, os) => (.ptr k 0 :: vs, .cs (leafs τ (headT (τ := τ) _ x)) :: bs, os)
    | .mx τ off σ es => match resParts ps r (tailT (τ := τ) _ x) (k + 1) with
      | (vs, bs, os) => (.agg ((empL (leafs τ (headT (τ := τ) _ x)) es).set off (.arr k)) :: vs, .rows σ ((rowAt (leafs τ (headT (τ := τ) _ x)) off σ).getD []) :: bs, os)

def resOf (ps : List PT) (ros : List (ResultVar × RO)) (x : D (tupTy (ros.map (·.2.ty) ++ outTys ps))) : Res :=
  match resParts ps ros x 0 with
  | (vs, bs, os) => match vs with
    | [v] => { v := v, bs := bs, outs := os, offs := offsK 0 ps }
    | vs => { v := .tup vs, bs := bs, outs := os, offs := offsK 0 ps }

def entry (ps : List PT) (ros : List (ResultVar × RO)) (f : D (tupTy (ps.map PT.ty)) → Option (D (tupTy (ros.map (·.2.ty) ++ outTys ps)))) : Entry :=
  fun R args K => match takeArgs ps args with
    | some x => bindO (f x) fun y => K (resOf ps ros y)
    | none => none

end Go.E

set_option linter.unusedVariables false
namespace Go.E
open Go Go.RowKit

theorem loopR_def {R : Type} (A : Ann) (a : Code) (B : St → Kt R → Option R) (κ : Kt R) (s : St) : loopR A a B κ s = lim fun k => iter A a B κ k s := congrFun (hide_eq _) s
theorem joinK_eq {R : Type} (A : Ann) (b : Code) (rb : St → Kt R → Option R) (κ : Kt R) (s : St) : joinK A b rb κ s = rb (canAt A.kp A.jn b s) κ := by
  unfold joinK canAt
  split
  · split
    · rw [hide_eq]
    · rfl
  · rfl
theorem seqK_normal {R : Type} (A : Ann) (b : Code) (rb : St → Kt R → Option R) (κ : Kt R) (s : St) : seqK A b rb κ .normal s = rb (canAt A.kp A.jn b s) κ := joinK_eq A b rb κ s

/-! What the values stand for, in a world. -/

def CellsAt (w : World) (b off : Nat) (cs : List Value) : Prop := ∀ j v, cs[j]? = some v → w.cell? ⟨b, off + j, none⟩ = some v

inductive RQ (F : Nat → Prop) (w : World) : Q → List Value → Prop
  | mk (kind : Int) (field text : ByteArray) (low high : Int) (parts : List Q) (a : Option Addr) (cap : Nat) (c : Nat → List Value)
      (h1 : parts.length ≤ cap) (h2 : a = none → cap = 0) (h3 : ∀ ad, a = some ad → 0 < parts.length → ad.spot = none ∧ F ad.block)
      (h4 : ∀ i x, parts[i]? = some x → RQ F w x (c i)) (h5 : ∀ ad i x, a = some ad → parts[i]? = some x → CellsAt w ad.block (ad.off + i * 6) (c i)) :
      RQ F w (.mk kind field text low high parts) [.int .i64 kind, .string field, .string text, .int .i64 low, .int .i64 high, .slice a parts.length cap]

abbrev asL {e : Ty} (l : D (.sl e)) : List (D e) := l

def RC (F : Nat → Prop) (w : World) : (τ : Ty) → D τ → List Value → Prop
  | .int k, n, cs => cs = [.int k n]
  | .bool, b, cs => cs = [.bool b]
  | .str, s, cs => cs = [.string s]
  | .err, b, cs => ∃ v, cs = [v] ∧ (b = false → v = .nilIface) ∧ (b = true → ∃ t x, v = .iface t x)
  | .unit, _, cs => cs = []
  | .pr a b, x, cs => ∃ c d, cs = c ++ d ∧ RC F w a x.1 c ∧ RC F w b x.2 d
  | .sl e, l, cs => ∃ a cap, cs = [.slice a (List.length l) cap] ∧ List.length l ≤ cap ∧ (a = none → cap = 0) ∧ ∀ ad, a = some ad → 0 < List.length l → ad.spot = none ∧ F ad.block ∧
      ∀ (i : Nat) (x : D e), (asL l)[i]? = some x → ∃ c, RC F w e x c ∧ CellsAt w ad.block (ad.off + i * e.width) c
  | .q, x, cs => RQ F w x cs

def RowsAt (F : Nat → Prop) (w : World) (τ : Ty) (l : List (D τ)) (ad : Addr) : Prop :=
  ∀ (i : Nat) x, l[i]? = some x → ∃ c, RC F w τ x c ∧ CellsAt w ad.block (ad.off + i * τ.width) c

theorem RQ.len {F : Nat → Prop} {w : World} {x : Q} {cs : List Value} (h : RQ F w x cs) : cs.length = 6 := by cases h; rfl

theorem RC.len {F : Nat → Prop} {w : World} : ∀ {τ : Ty} {x : D τ} {cs : List Value}, RC F w τ x cs → cs.length = τ.width := by
  intro τ
  induction τ with
  | int k => intro x cs h; simp only [RC] at h; subst h; rfl
  | bool => intro x cs h; simp only [RC] at h; subst h; rfl
  | str => intro x cs h; simp only [RC] at h; subst h; rfl
  | err => intro x cs h; simp only [RC] at h; obtain ⟨v, rfl, _⟩ := h; rfl
  | unit => intro x cs h; simp only [RC] at h; subst h; rfl
  | pr a b iha ihb => intro x cs h; simp only [RC] at h; obtain ⟨c, d, rfl, h1, h2⟩ := h; simp [Ty.width, iha h1, ihb h2]
  | sl e ih => intro x cs h; simp only [RC] at h; obtain ⟨a, cap, rfl, _⟩ := h; rfl
  | q => intro x cs h; simp only [RC] at h; exact h.len

/-- The world w' keeps the cells of F's blocks. -/
def Keep (F : Nat → Prop) (w w' : World) : Prop := ∀ b off v, F b → w.cell? ⟨b, off, none⟩ = some v → w'.cell? ⟨b, off, none⟩ = some v

theorem Keep.cells {F : Nat → Prop} {w w' : World} (h : Keep F w w') {b off : Nat} {cs : List Value} (hb : F b) (hc : CellsAt w b off cs) : CellsAt w' b off cs :=
  fun j v hj => h _ _ _ hb (hc j v hj)

theorem RQ.mono {F F' : Nat → Prop} {w w' : World} (hF : ∀ b, F b → F' b) (hk : Keep F w w') {x : Q} {cs : List Value} (h : RQ F w x cs) : RQ F' w' x cs := by
  induction h with
  | mk kind field text low high parts a cap c h1 h2 h3 h4 h5 ih =>
    exact .mk _ _ _ _ _ _ _ _ c h1 h2 (fun ad e hc => ⟨(h3 ad e hc).1, hF _ (h3 ad e hc).2⟩) ih (fun ad i x e hx => hk.cells (h3 ad e (by have := (List.getElem?_eq_some_iff.1 hx).1; omega)).2 (h5 ad i x e hx))

theorem RC.mono {F F' : Nat → Prop} {w w' : World} (hF : ∀ b, F b → F' b) (hk : Keep F w w') : ∀ {τ : Ty} {x : D τ} {cs : List Value}, RC F w τ x cs → RC F' w' τ x cs := by
  intro τ
  induction τ with
  | int k => intro x cs h; exact h
  | bool => intro x cs h; exact h
  | str => intro x cs h; exact h
  | err => intro x cs h; exact h
  | unit => intro x cs h; exact h
  | pr a b iha ihb => intro x cs h; simp only [RC] at h ⊢; obtain ⟨c, d, e, h1, h2⟩ := h; exact ⟨c, d, e, iha h1, ihb h2⟩
  | sl e ih =>
    intro x cs h; simp only [RC] at h ⊢
    obtain ⟨a, cap, e1, h1, h2, h3⟩ := h
    refine ⟨a, cap, e1, h1, h2, fun ad ea hc => ?_⟩
    obtain ⟨g1, g2, g3⟩ := h3 ad ea hc
    refine ⟨g1, hF _ g2, fun i y hy => ?_⟩
    obtain ⟨c, k1, k2⟩ := g3 i y hy
    exact ⟨c, ih k1, hk.cells g2 k2⟩
  | q => intro x cs h; simp only [RC] at h ⊢; exact h.mono hF hk

theorem RowsAt.mono {F F' : Nat → Prop} {w w' : World} (hF : ∀ b, F b → F' b) (hk : Keep F w w') {τ : Ty} {l : List (D τ)} {ad : Addr} (h : RowsAt F w τ l ad)
    (hc : ∀ off v, w.cell? ⟨ad.block, off, none⟩ = some v → w'.cell? ⟨ad.block, off, none⟩ = some v) : RowsAt F' w' τ l ad := fun i x hx => by
  obtain ⟨c, h1, h2⟩ := h i x hx
  exact ⟨c, h1.mono hF hk, fun j v hj => hc _ _ (h2 j v hj)⟩

structure MB where
  a : Option Addr
  len : Nat
  cap : Nat
  wd : Nat

abbrev Mu := Nat → Option (Option MB)

section
variable (F B : Nat → Prop) (w : World) (μ : Mu)
mutual
def R : V → Value → Prop
  | .undef, _ => True
  | .val τ x, v => match τ.agg with
    | true => ∃ cs, v = .agg cs ∧ RC F w τ x cs.toList
    | false => RC F w τ x [v]
  | .nil, v => v = .slice none 0 0
  | .nilp, v => v = .pointer none
  | .agg cs, v => ∃ vs, v = .agg vs ∧ RL cs vs.toList
  | .tup cs, v => ∃ vs, v = .tuple vs ∧ RL cs vs.toList
  | .arr b, v => ∃ o, μ b = some o ∧ ∃ a n c, v = .slice a n c ∧ ∀ q, o = some q → a = q.a ∧ n = q.len ∧ c = q.cap
  | .ptr b off, v => ∃ o, μ b = some o ∧ ∃ p, v = .pointer (some p) ∧ ∀ q, o = some q → ∃ ad, q.a = some ad ∧ p = ⟨ad.block, ad.off + off, none⟩
  | .ep b i off, v => ∃ o, μ b = some o ∧ ∃ p, v = .pointer (some p) ∧ ∀ q, o = some q → ∃ ad, q.a = some ad ∧ p = ⟨ad.block, ad.off + (i.toNat * q.wd + off), none⟩
  | .rp τ x, v => ∃ ad cs, v = .pointer (some ad) ∧ ad.spot = none ∧ F ad.block ∧ RC F w τ x cs ∧ CellsAt w ad.block ad.off cs
  | .rc cs, v => ∃ ad vs, v = .pointer (some ad) ∧ ad.spot = none ∧ B ad.block ∧ RL cs vs ∧ CellsAt w ad.block ad.off vs
  | .fn f caps, v => ∃ captured, v = .func (.func f) #[] captured ∧ RL caps captured.toList
def RL : List V → List Value → Prop
  | [], [] => True
  | a :: x, v :: y => R a v ∧ RL x y
  | [], _ :: _ => False
  | _ :: _, [] => False
end
end

/-- Old numbers of boxes keep their memory, or lose it. -/
def Mu.le (μ μ' : Mu) : Prop := ∀ b o, μ b = some o → ∃ o', μ' b = some o' ∧ (o' = none ∨ o' = o)

theorem Mu.le_refl (μ : Mu) : μ.le μ := fun b o h => ⟨o, h, .inr rfl⟩
theorem Mu.le_trans {μ μ' μ'' : Mu} (h : μ.le μ') (h' : μ'.le μ'') : μ.le μ'' := fun b o e => by
  obtain ⟨o', e', k⟩ := h b o e
  obtain ⟨o'', e'', k'⟩ := h' b o' e'
  refine ⟨o'', e'', ?_⟩
  rcases k' with k' | k'
  · exact .inl k'
  · subst k'; exact k

section
variable {F F' B B' : Nat → Prop} {w w' : World} {μ μ' : Mu}
mutual
theorem R.mono (hF : ∀ b, F b → F' b) (hB : ∀ b, B b → B' b) (hk : Keep F w w') (hkB : Keep B w w') (hμ : μ.le μ') : ∀ (a : V) (v : Value), R F B w μ a v → R F' B' w' μ' a v
  | .undef, _, _ => by simp only [R]
  | .val τ x, v, h => by
    simp only [R] at h ⊢
    cases hτ : τ.agg with
    | true => rw [hτ] at h; obtain ⟨cs, e, k⟩ := h; exact ⟨cs, e, RC.mono hF hk k⟩
    | false => rw [hτ] at h; exact RC.mono hF hk h
  | .nil, _, h => by simp only [R] at h ⊢; exact h
  | .nilp, _, h => by simp only [R] at h ⊢; exact h
  | .agg cs, v, h => by simp only [R] at h ⊢; obtain ⟨vs, e, k⟩ := h; exact ⟨vs, e, RL.mono hF hB hk hkB hμ cs _ k⟩
  | .tup cs, v, h => by simp only [R] at h ⊢; obtain ⟨vs, e, k⟩ := h; exact ⟨vs, e, RL.mono hF hB hk hkB hμ cs _ k⟩
  | .arr b, v, h => by
    simp only [R] at h ⊢; obtain ⟨o, e, x, y, z, ev, k⟩ := h; obtain ⟨o', e', k'⟩ := hμ b o e
    exact ⟨o', e', x, y, z, ev, fun q hq => k q (by rcases k' with k' | k' <;> simp_all)⟩
  | .ptr b off, v, h => by
    simp only [R] at h ⊢; obtain ⟨o, e, x, ev, k⟩ := h; obtain ⟨o', e', k'⟩ := hμ b o e
    exact ⟨o', e', x, ev, fun q hq => k q (by rcases k' with k' | k' <;> simp_all)⟩
  | .ep b i off, v, h => by
    simp only [R] at h ⊢; obtain ⟨o, e, x, ev, k⟩ := h; obtain ⟨o', e', k'⟩ := hμ b o e
    exact ⟨o', e', x, ev, fun q hq => k q (by rcases k' with k' | k' <;> simp_all)⟩
  | .rp τ x, v, h => by
    simp only [R] at h ⊢; obtain ⟨ad, cs, e, h1, h2, h3, h4⟩ := h
    exact ⟨ad, cs, e, h1, hF _ h2, h3.mono hF hk, hk.cells h2 h4⟩
  | .rc cs, v, h => by
    simp only [R] at h ⊢; obtain ⟨ad, vs, e, h1, h2, h3, h4⟩ := h
    exact ⟨ad, vs, e, h1, hB _ h2, RL.mono hF hB hk hkB hμ cs _ h3, hkB.cells h2 h4⟩
  | .fn f caps, v, h => by
    simp only [R] at h ⊢; obtain ⟨y, e, k⟩ := h; exact ⟨y, e, RL.mono hF hB hk hkB hμ caps _ k⟩
theorem RL.mono (hF : ∀ b, F b → F' b) (hB : ∀ b, B b → B' b) (hk : Keep F w w') (hkB : Keep B w w') (hμ : μ.le μ') : ∀ (a : List V) (v : List Value), RL F B w μ a v → RL F' B' w' μ' a v
  | [], [], h => by simp only [RL]
  | a :: x, v :: y, h => by simp only [RL] at h ⊢; exact ⟨R.mono hF hB hk hkB hμ a v h.1, RL.mono hF hB hk hkB hμ x y h.2⟩
  | [], _ :: _, h => by simp only [RL] at h
  | _ :: _, [], h => by simp only [RL] at h
end
end

/-- Cells that can be written. -/
def Stor (w : World) (b off n : Nat) : Prop := ∀ k, k < n → (w.cell? ⟨b, off + k, none⟩).isSome = true ∧ w.frozen? ⟨b, off + k, none⟩ = false

def BoxRel (F B : Nat → Prop) (w : World) (μ : Mu) : Bx → MB → Prop
  | .cs cs, q => ∃ ad vs, q.a = some ad ∧ ad.spot = none ∧ RL F B w μ cs vs ∧ CellsAt w ad.block ad.off vs ∧ Stor w ad.block ad.off cs.length
  | .rows τ l, q => q.len = l.length ∧ q.len ≤ q.cap ∧ q.wd = τ.width ∧ (q.a = none → q.cap = 0) ∧
      ∀ ad, q.a = some ad → ad.spot = none ∧ RowsAt F w τ l ad ∧ Stor w ad.block ad.off (q.cap * τ.width)
  | .fz τ l, q => q.len = l.length ∧ q.len ≤ q.cap ∧ q.wd = τ.width ∧ (q.a = none → q.cap = 0) ∧
      ∀ ad, q.a = some ad → ad.spot = none ∧ F ad.block ∧ RowsAt F w τ l ad

def Bx.isFz : Bx → Bool
  | .fz _ _ => true
  | _ => false

/-- What a call leaves of the world it got: all but blocks of 'Ob' is as it was. -/
structure Ext (Ob : Nat → Prop) (w0 w : World) : Prop where
  os : w.os = w0.os
  tape : w.tape = w0.tape
  output : w.output = w0.output
  size : w0.heap.size ≤ w.heap.size
  block : ∀ k, k < w0.heap.size → ¬ Ob k → w.heap[k]? = w0.heap[k]?

end Go.E

set_option linter.unusedVariables false
namespace Go.E
open Go Go.RowKit

/-! An operation's step does not look at what comes behind. -/

def Natu (c : Entry) : Prop := ∀ (R : Type) (args : List V) (K : Res → Option R), c R args K = (c Res args some).bind K

structure Env.ok (E : Env) : Prop where
  nat : ∀ g c, look E.C g = some c → Natu c

section
variable {E : Env} {R R' : Type}

theorem iteB_bind (b : Bool) (x y : Option R) (f : R → Option R') : (iteB b x y).bind f = iteB b (x.bind f) (y.bind f) := by
  unfold iteB; split <;> rfl
theorem bindO_bind {α : Type} (o : Option α) (g : α → Option R) (f : R → Option R') : (bindO o g).bind f = bindO o (fun x => (g x).bind f) := by
  unfold bindO; cases o <;> rfl

theorem wT_bind (t : Nat) (K : TL → Option R) (f : R → Option R') : (wT E t K).bind f = wT E t (fun l => (K l).bind f) := by
  unfold wT; split <;> rfl
theorem wE_bind (t : Nat) (K : TL → Option R) (f : R → Option R') : (wE E t K).bind f = wE E t (fun l => (K l).bind f) := by
  unfold wE; rw [wT_bind]; congr 1; funext l; split
  · rw [wT_bind]
  · rfl
theorem wF_bind (t i : Nat) (K : Nat → TL → Option R) (f : R → Option R') : (wF E t i K).bind f = wF E t i (fun o l => (K o l).bind f) := by
  unfold wF; rw [wT_bind]; congr 1; funext l; split
  · split
    · rw [wT_bind]
    · rfl
  · rfl
theorem wI_bind (v : V) (K : Int → Option R) (f : R → Option R') : (wI v K).bind f = wI v (fun n => (K n).bind f) := by
  unfold wI; split <;> rfl
theorem wOI_bind (s : St) (x : Option Operand) (d : Int) (K : Int → Option R) (f : R → Option R') : (wOI E s x d K).bind f = wOI E s x d (fun n => (K n).bind f) := by
  unfold wOI; split
  · rw [wI_bind]
  · rfl
theorem zeroD_bind (τ : Ty) (cs : List V) (K : D τ → Option R) (f : R → Option R') : (zeroD τ cs K).bind f = zeroD τ cs (fun n => (K n).bind f) := by
  unfold zeroD; split <;> rfl
theorem loadRp_bind (τ : Ty) (x : D τ) (off : Nat) (l : TL) (m : Hp) (K : V → Hp → Option R) (f : R → Option R') : (loadRp τ x off l m K).bind f = loadRp τ x off l m (fun v m => (K v m).bind f) := by
  unfold loadRp; split <;> rfl

theorem cellK_bind (l : TL) (cs : List V) (off : Nat) (m : Hp) (K : V → Hp → Option R) (f : R → Option R') : (cellK l cs off m K).bind f = cellK l cs off m (fun v m => (K v m).bind f) := by
  unfold cellK; split
  · split <;> rfl
  · split <;> rfl

theorem callK_bind (hE : E.ok) (g : Nat) (tys : List Nat) (args : List V) (base : Nat) (m : Hp) (K : V → Hp → Option R) (f : R → Option R') :
    (callK E g tys args base m K).bind f = callK E g tys args base m (fun v m => (K v m).bind f) := by
  unfold callK; split
  · rename_i c hc
    rw [hE.nat g c hc R', hE.nat g c hc R, Option.bind_assoc]; congr 1; funext r; split
    · split <;> rfl
    · rfl
  · rfl

theorem builtinK_bind (b : Builtin) (tys : List Nat) (xs : List V) (base : Nat) (m : Hp) (K : V → Hp → Option R) (f : R → Option R') :
    (builtinK E b tys xs base m K).bind f = builtinK E b tys xs base m (fun v m => (K v m).bind f) := by
  unfold builtinK
  split
  · rw [wT_bind]; congr 1; funext l; split
    · split <;> rfl
    · split <;> first | rfl | (split <;> rfl)
    · rfl
  · rw [wE_bind]; congr 1; funext l; rw [wE_bind]; congr 1; funext l2; split
    · split
      · rw [iteB_bind]; rfl
      · split
        · split
          · rw [iteB_bind]; rfl
          · rfl
        · rfl
      · rfl
    · rfl
  all_goals first | rfl | (split <;> rfl)

set_option maxHeartbeats 4000000 in
theorem opK_bind (hE : E.ok) (o : Op) (base : Nat) (s : St) (K : V → Hp → Option R) (f : R → Option R') :
    (opK E o base s K).bind f = opK E o base s (fun v m => (K v m).bind f) := by
  cases o
  case move x => rfl
  case assign x => rfl
  case call c =>
    simp only [opK]; split
    · rw [builtinK_bind]
    · split
      · rw [callK_bind hE]
      · rfl
    · rfl
  case pick c a b => simp only [opK]; split <;> first | rfl | exact iteB_bind _ _ _ _
  case alloc t => simp only [opK]; rw [wT_bind]
  case box t x => simp only [opK]; rw [wT_bind]; congr 1; funext l; split <;> rfl
  case build t p => simp only [opK]; rw [wT_bind]; congr 1; funext l; split <;> first | rfl | (split <;> rfl)
  case buildSlice t n p =>
    simp only [opK]; rw [wE_bind]; congr 1; funext l; split
    · rfl
    · rw [zeroD_bind]; congr 1; funext z; split <;> rfl
  case load t a =>
    simp only [opK]; rw [wT_bind]; congr 1; funext l; split
    · split
      · rw [cellK_bind]
      · rfl
    · rw [cellK_bind]
    · rw [loadRp_bind]
    · split
      · rw [bindO_bind]; congr 1; funext x; rw [loadRp_bind]
      · rw [bindO_bind]; congr 1; funext x; rw [loadRp_bind]
      · rfl
    · rfl
  case store t a x =>
    simp only [opK]; rw [wT_bind]; congr 1; funext l; split
    · split
      · split <;> rfl
      · rfl
    · split
      · split
        · split
          · rfl
          · rw [bindO_bind]; congr 1; funext z; split <;> rfl
        · rfl
      · rfl
    · rfl
  case nilCheck x => simp only [opK]; split <;> rfl
  case binOp op xt x y yt =>
    simp only [opK]; split
    · split
      · split
        · rw [iteB_bind]; rfl
        · rw [iteB_bind]; rfl
        · split <;> rfl
      · rfl
    · split
      · rw [iteB_bind]; rfl
      · split <;> rfl
    · rw [wT_bind]; congr 1; funext l; split
      · split <;> rfl
      · rfl
    · rw [wT_bind]; congr 1; funext l; split
      · split
        · split <;> rfl
        · rfl
      · rfl
    · rw [wT_bind]; congr 1; funext l; split
      · split
        · split
          · split <;> rfl
          · rfl
        · rfl
      · rfl
  case unOp op t x => simp only [opK]; split <;> rfl
  case convert a b x =>
    simp only [opK]; rw [wT_bind]; congr 1; funext ls; rw [wT_bind]; congr 1; funext l; split
    · split <;> rfl
    · rw [wT_bind]; congr 1; funext le; split
      · split <;> rfl
      · rfl
    · split
      · rw [wT_bind]; congr 1; funext le; split
        · split <;> rfl
        · rfl
      · rfl
    · rfl
  case fieldAddr t x f =>
    simp only [opK]; rw [wF_bind]; congr 1; funext o l; split <;> first | rfl | (split <;> rfl)
  case field t x f =>
    simp only [opK]; rw [wF_bind]; congr 1; funext o l; split
    · split
      · rw [loadRp_bind]
      · rfl
    · rw [cellK_bind]
    · rfl
  case indexAddr t x i =>
    simp only [opK]; rw [wE_bind]; congr 1; funext tl; rw [wI_bind]; congr 1; funext n; split
    · split
      · split
        · rw [iteB_bind, iteB_bind]; rfl
        · rfl
      · split
        · rw [bindO_bind]
        · rfl
      · rfl
    · split
      · rw [bindO_bind]
      · rfl
    · rfl
  case index t x i =>
    simp only [opK]; rw [wT_bind]; congr 1; funext tl; rw [wI_bind]; congr 1; funext n; split
    · split <;> first | rfl | rw [bindO_bind]
    · rfl
  case slice t x lo hi mx =>
    simp only [opK]; split
    · rfl
    · rw [wT_bind]; congr 1; funext tl; split
      · split
        · rw [wOI_bind]; congr 1; funext l; rw [wOI_bind]; congr 1; funext h; rw [iteB_bind]; rfl
        · rfl
      · rw [wT_bind]; congr 1; funext tl; split
        · rw [wOI_bind]; congr 1; funext l; rw [wOI_bind]; congr 1; funext h; rw [iteB_bind]; rfl
        · rfl
      · rfl
  case makeSlice t l c =>
    simp only [opK]; rw [wE_bind]; congr 1; funext l; rw [zeroD_bind]; congr 1; funext z; rw [wI_bind]; congr 1; funext n; rw [wI_bind]; congr 1; funext k
    rw [iteB_bind, iteB_bind]; rfl
  case extract x i => simp only [opK]; split <;> first | rfl | (split <;> rfl)
  case makeFunc fn a b => cases fn <;> first | rfl | (simp only [opK]; split <;> rfl)
  all_goals rfl
end
end Go.E

set_option linter.unusedVariables false
namespace Go.E
open Go Go.RowKit

def upd (μ : Mu) (b : Nat) (o : Option MB) : Mu := fun k => if k = b then some o else μ k

structure Mem (G : List (Nat × List V)) (w0 : World) (Ob A B F : Nat → Prop) (μ : Mu) (m : Hp) (w : World) : Prop where
  ext : Ext Ob w0 w
  box : ∀ b x, m.at b = some x → ∃ q, μ b = some (some q) ∧ BoxRel F B w μ x q
  own : ∀ b x q ad, m.at b = some x → x.isFz = false → μ b = some (some q) → q.a = some ad → ¬ F ad.block ∧ ¬ B ad.block ∧ ad.block < w.heap.size ∧ (w0.heap.size ≤ ad.block ∨ Ob ad.block)
  inj : ∀ b b' x x' q q' ad ad', m.at b = some x → m.at b' = some x' → x.isFz = false → x'.isFz = false → μ b = some (some q) → μ b' = some (some q') →
    q.a = some ad → q'.a = some ad' → ad.block = ad'.block → b = b'
  fz : ∀ b, F b → b < w.heap.size ∧ (A b ∨ w0.heap.size ≤ b ∨ Ob b)
  bz : ∀ b, B b → b < w0.heap.size ∧ ¬ Ob b
  glob : ∀ g cs, look G g = some cs → R F B w μ (.rc cs) (.pointer (some ⟨g, 0, none⟩))

/-- From one state of memory to the next. -/
structure Tr (B : Nat → Prop) (F F' : Nat → Prop) (μ μ' : Mu) (w w' : World) : Prop where
  sub : ∀ b, F b → F' b
  keep : Keep F w w'
  keepB : Keep B w w'
  mu : μ.le μ'

theorem Tr.refl (B F : Nat → Prop) (μ : Mu) (w : World) : Tr B F F μ μ w w := ⟨fun _ h => h, fun _ _ _ _ h => h, fun _ _ _ _ h => h, μ.le_refl⟩
theorem Tr.trans {B F F' F'' : Nat → Prop} {μ μ' μ'' : Mu} {w w' w'' : World} (h : Tr B F F' μ μ' w w') (k : Tr B F' F'' μ' μ'' w' w'') : Tr B F F'' μ μ'' w w'' :=
  ⟨fun b hb => k.sub b (h.sub b hb), fun b o v hb e => k.keep b o v (h.sub b hb) (h.keep b o v hb e), fun b o v hb e => k.keepB b o v hb (h.keepB b o v hb e), Mu.le_trans h.mu k.mu⟩
theorem Tr.R {B F F' : Nat → Prop} {μ μ' : Mu} {w w' : World} (h : Tr B F F' μ μ' w w') {a : V} {v : Value} (hr : R F B w μ a v) : R F' B w' μ' a v :=
  R.mono h.sub (fun _ x => x) h.keep h.keepB h.mu a v hr
theorem Tr.RL {B F F' : Nat → Prop} {μ μ' : Mu} {w w' : World} (h : Tr B F F' μ μ' w w') {a : List V} {v : List Value} (hr : RL F B w μ a v) : RL F' B w' μ' a v :=
  RL.mono h.sub (fun _ x => x) h.keep h.keepB h.mu a v hr

theorem Hp.at_cons (b : Nat) (o : Option Bx) (m : Hp) (k : Nat) : Hp.at ((b, o) :: m) k = if b = k then o else Hp.at m k := by
  unfold Hp.at; simp only [look]; by_cases h : b = k
  · simp only [h, if_true]; cases o <;> rfl
  · simp only [h, if_false]

/-- A block's cells and marks are as they were. -/
def Same (w w' : World) (b : Nat) : Prop := ∀ off, w'.cell? ⟨b, off, none⟩ = w.cell? ⟨b, off, none⟩ ∧ w'.frozen? ⟨b, off, none⟩ = w.frozen? ⟨b, off, none⟩

theorem Stor.same {w w' : World} {b off n : Nat} (h : Stor w b off n) (hs : Same w w' b) : Stor w' b off n := fun k hk => by
  obtain ⟨h1, h2⟩ := h k hk
  exact ⟨by rw [(hs _).1]; exact h1, by rw [(hs _).2]; exact h2⟩

theorem CellsAt.same {w w' : World} {b off : Nat} {cs : List Value} (h : CellsAt w b off cs) (hs : Same w w' b) : CellsAt w' b off cs := fun j v hj => by
  rw [(hs _).1]; exact h j v hj

theorem BoxRel.mono {B F F' : Nat → Prop} {μ μ' : Mu} {w w' : World} (h : Tr B F F' μ μ' w w') {x : Bx} {q : MB} (hb : BoxRel F B w μ x q)
    (hs : ∀ ad, x.isFz = false → q.a = some ad → Same w w' ad.block) : BoxRel F' B w' μ' x q := by
  cases x with
  | cs cs =>
    obtain ⟨ad, vs, e, h1, h2, h3, h4⟩ := hb
    have hs := hs ad rfl e
    exact ⟨ad, vs, e, h1, h.RL h2, h3.same hs, h4.same hs⟩
  | rows τ l =>
    obtain ⟨e1, e2, e3, e4, e5⟩ := hb
    refine ⟨e1, e2, e3, e4, fun ad e => ?_⟩
    obtain ⟨k1, k2, k3⟩ := e5 ad e
    have hs := hs ad rfl e
    exact ⟨k1, k2.mono h.sub h.keep (fun off v hv => by rw [(hs off).1]; exact hv), k3.same hs⟩
  | fz τ l =>
    obtain ⟨e1, e2, e3, e4, e5⟩ := hb
    refine ⟨e1, e2, e3, e4, fun ad e => ?_⟩
    obtain ⟨k1, k2, k3⟩ := e5 ad e
    exact ⟨k1, h.sub _ k2, k3.mono h.sub h.keep (fun off v hv => h.keep _ _ _ k2 hv)⟩

theorem upd_le {μ : Mu} {b : Nat} {o : Option MB} (h : μ b = none ∨ o = none) : μ.le (upd μ b o) := fun k p e => by
  by_cases hk : k = b
  · subst hk
    rcases h with h | h
    · rw [h] at e; cases e
    · subst h; exact ⟨none, by simp [upd], .inl rfl⟩
  · exact ⟨p, by simp [upd, hk, e], .inr rfl⟩

section
variable {G : List (Nat × List V)} {w0 : World} {Ob A B F : Nat → Prop} {μ : Mu} {m : Hp} {w : World}

theorem Mem.block_lt (h : Mem G w0 Ob A B F μ m w) {b : Nat} (hb : B b) : b < w.heap.size := Nat.lt_of_lt_of_le (h.bz b hb).1 h.ext.size

theorem same_alloc (w : World) (o : Obj) {b : Nat} (hb : b < w.heap.size) : Same w (w.alloc o) b := fun off =>
  ⟨World.cell?_alloc_lt w o ⟨b, off, none⟩ hb, by
    simp only [World.frozen?, World.alloc]; rw [Array.getElem?_push_lt hb, Array.getElem?_eq_getElem hb]⟩

theorem Ext.alloc {Ob : Nat → Prop} {w0 w : World} (h : Ext Ob w0 w) (o : Obj) : Ext Ob w0 (w.alloc o) :=
  ⟨h.os, h.tape, h.output, by have := h.size; simp; omega, fun k hk hio => by
    rw [← h.block k hk hio]; simp only [World.alloc]; rw [Array.getElem?_push_lt (Nat.lt_of_lt_of_le hk h.size), Array.getElem?_eq_getElem (Nat.lt_of_lt_of_le hk h.size)]⟩

theorem Ext.drew {Ob : Nat → Prop} {w0 w : World} (h : Ext Ob w0 w) : Ext Ob w0 w.drew := ⟨h.os, h.tape, h.output, h.size, h.block⟩

theorem Tr.alloc (h : Mem G w0 Ob A B F μ m w) (o : Obj) {base : Nat} (hb : μ base = none) (q : MB) : Tr B F F μ (upd μ base (some q)) w (w.alloc o) :=
  ⟨fun _ x => x, fun b off v hF e => by rw [(same_alloc w o (h.fz b hF).1 off).1]; exact e, fun b off v hB e => by rw [(same_alloc w o (h.block_lt hB) off).1]; exact e, upd_le (.inl hb)⟩

/-- A new block, and a box for it. -/
theorem Mem.alloc (h : Mem G w0 Ob A B F μ m w) {base : Nat} (hb : μ base = none) (x : Bx) (o : Obj) (q : MB)
    (hq : ∀ ad, q.a = some ad → ad.block = w.heap.size) (hx : x.isFz = false) (hbox : BoxRel F B (w.alloc o) (upd μ base (some q)) x q) :
    Mem G w0 Ob A B F (upd μ base (some q)) ((base, some x) :: m) (w.alloc o) := by
  have tr := Tr.alloc h o hb q
  have hm : ∀ b y, m.at b = some y → b ≠ base := fun b y hy e => by
    obtain ⟨q', e', _⟩ := h.box b y hy; rw [e, hb] at e'; cases e'
  refine ⟨h.ext.alloc o, fun b y hy => ?_, fun b y p ad hy hz hp hpa => ?_, fun b b' y y' p p' ad ad' hy hy' hz hz' hp hp' hpa hpa' he => ?_, fun b hF => ?_, h.bz, fun g cs hg => tr.R (h.glob g cs hg)⟩
  · rw [Hp.at_cons] at hy
    split at hy
    · rename_i e; subst e; cases hy; exact ⟨q, by simp [upd], hbox⟩
    · obtain ⟨p, e, hp⟩ := h.box b y hy
      refine ⟨p, by simp [upd, hm b y hy, e], hp.mono tr (fun ad hz ha => same_alloc w o (h.own b y p ad hy hz e ha).2.2.1)⟩
  · rw [Hp.at_cons] at hy
    split at hy
    · rename_i e; subst e; cases hy
      simp [upd] at hp; subst hp
      have := hq ad hpa
      refine ⟨fun hF => ?_, fun hB => ?_, by simp; omega, .inl (by have := h.ext.size; omega)⟩
      · have := (h.fz _ hF).1; omega
      · have := h.block_lt hB; omega
    · simp [upd, hm b y hy] at hp
      obtain ⟨k1, k2, k3, k4⟩ := h.own b y p ad hy hz hp hpa
      exact ⟨k1, k2, by simp; omega, k4⟩
  · rw [Hp.at_cons] at hy hy'
    split at hy <;> split at hy'
    · rename_i e e'; exact e.symm.trans e'
    · rename_i e e'; subst e; cases hy
      simp [upd] at hp; subst hp
      simp [upd, hm b' y' hy'] at hp'
      have := hq ad hpa
      have := (h.own b' y' p' ad' hy' hz' hp' hpa').2.2.1
      omega
    · rename_i e e'; subst e'; cases hy'
      simp [upd] at hp'; subst hp'
      simp [upd, hm b y hy] at hp
      have := hq ad' hpa'
      have := (h.own b y p ad hy hz hp hpa).2.2.1
      omega
    · simp [upd, hm b y hy] at hp
      simp [upd, hm b' y' hy'] at hp'
      exact h.inj b b' y y' p p' ad ad' hy hy' hz hz' hp hp' hpa hpa' he
  · have := h.fz b hF
    exact ⟨by simp; omega, this.2⟩

theorem Mem.drew (h : Mem G w0 Ob A B F μ m w) : Mem G w0 Ob A B F μ m w.drew := by
  have tr : Tr B F F μ μ w w.drew := ⟨fun _ x => x, fun _ _ _ _ e => e, fun _ _ _ _ e => e, μ.le_refl⟩
  exact ⟨h.ext.drew, fun b x hx => by
    obtain ⟨q, e, hq⟩ := h.box b x hx
    exact ⟨q, e, hq.mono tr (fun _ _ _ _ => ⟨rfl, rfl⟩)⟩, h.own, h.inj, h.fz, h.bz, fun g cs hg => tr.R (h.glob g cs hg)⟩

/-- A box is dropped. -/
theorem Mem.kill (h : Mem G w0 Ob A B F μ m w) (b : Nat) : Mem G w0 Ob A B F μ ((b, none) :: m) w := by
  have hm : ∀ c x, Hp.at ((b, none) :: m) c = some x → m.at c = some x := fun c x hx => by
    rw [Hp.at_cons] at hx; split at hx
    · cases hx
    · exact hx
  exact ⟨h.ext, fun c x hx => h.box c x (hm c x hx), fun c x q ad hx => h.own c x q ad (hm c x hx), fun c c' x x' q q' ad ad' hx hx' => h.inj c c' x x' q q' ad ad' (hm c x hx) (hm c' x' hx'), h.fz, h.bz, h.glob⟩

/-- A box's number loses its memory. -/
theorem Mem.forget (h : Mem G w0 Ob A B F μ m w) (b : Nat) (hb : m.at b = none) (hu : (μ b).isSome = true) : Mem G w0 Ob A B F (upd μ b none) m w ∧ Tr B F F μ (upd μ b none) w w := by
  have tr : Tr B F F μ (upd μ b none) w w := ⟨fun _ x => x, fun _ _ _ _ e => e, fun _ _ _ _ e => e, upd_le (.inr rfl)⟩
  have hm : ∀ c x, m.at c = some x → c ≠ b := fun c x hx e => by rw [e, hb] at hx; cases hx
  refine ⟨⟨h.ext, fun c x hx => ?_, fun c x q ad hx hz hq => ?_, fun c c' x x' q q' ad ad' hx hx' hz hz' hq hq' => ?_, h.fz, h.bz, fun g cs hg => tr.R (h.glob g cs hg)⟩, tr⟩
  · obtain ⟨q, e, hq⟩ := h.box c x hx
    exact ⟨q, by simp [upd, hm c x hx, e], hq.mono tr (fun _ _ _ _ => ⟨rfl, rfl⟩)⟩
  · simp [upd, hm c x hx] at hq; exact h.own c x q ad hx hz hq
  · simp [upd, hm c x hx] at hq; simp [upd, hm c' x' hx'] at hq'; exact h.inj c c' x x' q q' ad ad' hx hx' hz hz' hq hq'
end
end Go.E

set_option linter.unusedVariables false
namespace Go.E
open Go Go.RowKit

section
variable {G : List (Nat × List V)} {w0 : World} {Ob A B F F' : Nat → Prop} {μ μ' : Mu} {m : Hp} {w w' : World}

theorem Mem.gen (h : Mem G w0 Ob A B F μ m w) (tr : Tr B F F' μ μ' w w') (hext : Ext Ob w0 w') (hsz : w.heap.size ≤ w'.heap.size) (b0 : Nat) (x0 : Bx) (q0 : MB)
    (h0 : μ' b0 = some (some q0)) (ho : ∀ b, b ≠ b0 → (m.at b).isSome = true → μ' b = μ b) (hbox : BoxRel F' B w' μ' x0 q0)
    (hs : ∀ b x q ad, b ≠ b0 → m.at b = some x → x.isFz = false → μ b = some (some q) → q.a = some ad → Same w w' ad.block ∧ ¬ F' ad.block ∧ ∀ ad0, x0.isFz = false → q0.a = some ad0 → ad0.block ≠ ad.block)
    (hown : x0.isFz = false → ∀ ad, q0.a = some ad → ¬ F' ad.block ∧ ¬ B ad.block ∧ ad.block < w'.heap.size ∧ (w0.heap.size ≤ ad.block ∨ Ob ad.block))
    (hfz : ∀ b, F' b → b < w'.heap.size ∧ (A b ∨ w0.heap.size ≤ b ∨ Ob b)) :
    Mem G w0 Ob A B F' μ' ((b0, some x0) :: m) w' := by
  refine ⟨hext, fun b y hy => ?_, fun b y p ad hy hz hp hpa => ?_, fun b b' y y' p p' ad ad' hy hy' hz hz' hp hp' hpa hpa' he => ?_, hfz, h.bz, fun g cs hg => tr.R (h.glob g cs hg)⟩
  · rw [Hp.at_cons] at hy
    split at hy
    · rename_i e; subst e; cases hy; exact ⟨q0, h0, hbox⟩
    · rename_i e
      obtain ⟨p, k, hp⟩ := h.box b y hy
      exact ⟨p, by rw [ho b (Ne.symm e) (by rw [hy]; rfl)]; exact k, hp.mono tr (fun ad hz ha => (hs b y p ad (Ne.symm e) hy hz k ha).1)⟩
  · rw [Hp.at_cons] at hy
    split at hy
    · rename_i e; subst e; cases hy
      rw [h0] at hp; cases hp
      exact hown hz ad hpa
    · rename_i e
      rw [ho b (Ne.symm e) (by rw [hy]; rfl)] at hp
      obtain ⟨k1, k2, k3, k4⟩ := h.own b y p ad hy hz hp hpa
      exact ⟨(hs b y p ad (Ne.symm e) hy hz hp hpa).2.1, k2, by omega, k4⟩
  · rw [Hp.at_cons] at hy hy'
    split at hy <;> split at hy'
    · rename_i e e'; exact e.symm.trans e'
    · rename_i e e'; subst e; cases hy
      rw [h0] at hp; cases hp
      rw [ho b' (Ne.symm e') (by rw [hy']; rfl)] at hp'
      exact absurd he ((hs b' y' p' ad' (Ne.symm e') hy' hz' hp' hpa').2.2 ad hz hpa)
    · rename_i e e'; subst e'; cases hy'
      rw [h0] at hp'; cases hp'
      rw [ho b (Ne.symm e) (by rw [hy]; rfl)] at hp
      exact absurd he.symm ((hs b y p ad (Ne.symm e) hy hz hp hpa).2.2 ad' hz' hpa')
    · rename_i e e'
      rw [ho b (Ne.symm e) (by rw [hy]; rfl)] at hp
      rw [ho b' (Ne.symm e') (by rw [hy']; rfl)] at hp'
      exact h.inj b b' y y' p p' ad ad' hy hy' hz hz' hp hp' hpa hpa' he

theorem cell_setCells_other (w : World) (g o : Nat) (vs : List Value) {b : Nat} (h : b ≠ g) (off : Nat) : (w.setCells g o vs).cell? ⟨b, off, none⟩ = w.cell? ⟨b, off, none⟩ :=
  World.cell?_setCells_out g vs o w _ (fun e => absurd e h)

theorem same_setCells (w : World) (g o : Nat) (vs : List Value) {b : Nat} (h : b ≠ g) : Same w (w.setCells g o vs) b := fun off =>
  ⟨cell_setCells_other w g o vs h off, World.frozen?_setCells g vs o w _⟩

theorem size_setCells (g : Nat) : ∀ (vs : List Value) (o : Nat) (w : World), (w.setCells g o vs).heap.size = w.heap.size
  | [], _, _ => rfl
  | v :: r, o, w => by rw [World.setCells, size_setCells g r]; simp

theorem setCells_eqs (g : Nat) : ∀ (vs : List Value) (o : Nat) (w : World), (w.setCells g o vs).os = w.os ∧ (w.setCells g o vs).tape = w.tape ∧ (w.setCells g o vs).output = w.output
  | [], _, _ => ⟨rfl, rfl, rfl⟩
  | v :: r, o, w => by rw [World.setCells]; exact setCells_eqs g r _ _

theorem heap_setCells (g : Nat) {k : Nat} (hk : k ≠ g) : ∀ (vs : List Value) (o : Nat) (w : World), (w.setCells g o vs).heap[k]? = w.heap[k]?
  | [], _, _ => rfl
  | v :: r, o, w => by
    rw [World.setCells, heap_setCells g hk r]
    exact Below.heap_setCell w ⟨g, o, none⟩ v k hk

theorem Ext.setCells (h : Ext Ob w0 w) {g : Nat} (hg : w0.heap.size ≤ g ∨ Ob g) (o : Nat) (vs : List Value) : Ext Ob w0 (w.setCells g o vs) := by
  obtain ⟨e1, e2, e3⟩ := setCells_eqs g vs o w
  refine ⟨e1.trans h.os, e2.trans h.tape, e3.trans h.output, by rw [size_setCells]; exact h.size, fun k hk hio => ?_⟩
  have hne : k ≠ g := fun e => by subst e; rcases hg with hg | hg
                                  · omega
                                  · exact hio hg
  rw [heap_setCells g hne]; exact h.block k hk hio

theorem Tr.setCells (h : Mem G w0 Ob A B F μ m w) {g : Nat} (hF : ¬ F g) (hB : ¬ B g) (o : Nat) (vs : List Value) : Tr B F F μ μ w (w.setCells g o vs) :=
  ⟨fun _ x => x, fun b off v hb e => by rw [cell_setCells_other w g o vs (fun e => hF (e ▸ hb))]; exact e,
    fun b off v hb e => by rw [cell_setCells_other w g o vs (fun e => hB (e ▸ hb))]; exact e, μ.le_refl⟩

/-- Cells of an own box are written. -/
theorem Mem.write (h : Mem G w0 Ob A B F μ m w) {b : Nat} {x : Bx} {q : MB} {ad : Addr} (hb : m.at b = some x) (hz : x.isFz = false) (hq : μ b = some (some q)) (ha : q.a = some ad)
    (o : Nat) (vs : List Value) (x' : Bx) (hz' : x'.isFz = false) (hbox : BoxRel F B (w.setCells ad.block o vs) μ x' q) :
    Mem G w0 Ob A B F μ ((b, some x') :: m) (w.setCells ad.block o vs) ∧ Tr B F F μ μ w (w.setCells ad.block o vs) := by
  obtain ⟨k1, k2, k3, k4⟩ := h.own b x q ad hb hz hq ha
  have tr := Tr.setCells h k1 k2 o vs
  refine ⟨h.gen tr (h.ext.setCells k4 o vs) (by rw [size_setCells]; omega) b x' q hq (fun _ _ _ => rfl) hbox (fun c y p ad' hc hy hyz hp hpa => ?_) (fun _ ad' e => ?_) (fun c hF => ?_), tr⟩
  · have hne : ad'.block ≠ ad.block := fun e => hc (h.inj c b y x p q ad' ad hy hb hyz hz hp hq hpa ha e)
    refine ⟨same_setCells w _ o vs hne, (h.own c y p ad' hy hyz hp hpa).1, fun ad0 _ e0 => ?_⟩
    rw [ha] at e0; cases e0; exact hne.symm
  · rw [ha] at e; cases e; exact ⟨k1, k2, by rw [size_setCells]; exact k3, k4⟩
  · have := h.fz c hF; rw [size_setCells]; exact this

theorem le_F {F : Nat → Prop} {P : Nat → Prop} (b : Nat) (h : F b) : F b ∨ P b := .inl h

/-- Own rows are frozen. -/
theorem Mem.freeze (h : Mem G w0 Ob A B F μ m w) {b : Nat} {τ : Ty} {l : List (D τ)} (hb : m.at b = some (.rows τ l)) :
    ∃ F', Mem G w0 Ob A B F' μ ((b, some (.fz τ l)) :: m) w ∧ Tr B F F' μ μ w w := by
  obtain ⟨q, hq, hbox⟩ := h.box b _ hb
  refine ⟨fun c => F c ∨ ∃ ad, q.a = some ad ∧ c = ad.block, ?_⟩
  have tr : Tr B F (fun c => F c ∨ ∃ ad, q.a = some ad ∧ c = ad.block) μ μ w w := ⟨fun _ x => .inl x, fun _ _ _ _ e => e, fun _ _ _ _ e => e, μ.le_refl⟩
  refine ⟨h.gen tr h.ext (Nat.le_refl _) b _ q hq (fun _ _ _ => rfl) ?_ (fun c y p ad' hc hy hyz hp hpa => ?_) (fun e => by cases e) (fun c hF => ?_), tr⟩
  · obtain ⟨e1, e2, e3, e4, e5⟩ := hbox
    refine ⟨e1, e2, e3, e4, fun ad e => ?_⟩
    obtain ⟨k1, k2, k3⟩ := e5 ad e
    exact ⟨k1, .inr ⟨ad, e, rfl⟩, k2.mono (fun _ x => .inl x) (fun _ _ _ _ e => e) (fun _ _ e => e)⟩
  · refine ⟨fun _ => ⟨rfl, rfl⟩, fun hF => ?_, fun _ e => by cases e⟩
    rcases hF with hF | ⟨ad, e, he⟩
    · exact (h.own c y p ad' hy hyz hp hpa).1 hF
    · exact hc (h.inj c b y _ p q ad' ad hy hb hyz rfl hp hq hpa e he)
  · rcases hF with hF | ⟨ad, e, he⟩
    · exact h.fz c hF
    · subst he
      obtain ⟨_, _, k3, k4⟩ := h.own b _ q ad hb rfl hq e
      exact ⟨k3, .inr k4⟩

theorem Mem.frz1 (h : Mem G w0 Ob A B F μ m w) (v : V) : ∃ F', Mem G w0 Ob A B F' μ (frz1 m v) w ∧ Tr B F F' μ μ w w := by
  have h0 : ∃ F', Mem G w0 Ob A B F' μ m w ∧ Tr B F F' μ μ w w := ⟨F, h, Tr.refl _ _ _ _⟩
  cases v <;> simp only [E.frz1] <;> first | exact h0 | skip
  split
  · rename_i hb; exact h.freeze hb
  · exact h0

theorem Mem.frzL (l : List V) : ∀ {F : Nat → Prop} {m : Hp}, Mem G w0 Ob A B F μ m w → ∃ F', Mem G w0 Ob A B F' μ (l.foldl E.frz1 m) w ∧ Tr B F F' μ μ w w := by
  induction l with
  | nil => intro F m h; exact ⟨F, h, Tr.refl _ _ _ _⟩
  | cons v r ih =>
    intro F m h
    obtain ⟨F1, h1, t1⟩ := h.frz1 v
    obtain ⟨F2, h2, t2⟩ := ih h1
    exact ⟨F2, h2, t1.trans t2⟩

theorem Mem.frz (h : Mem G w0 Ob A B F μ m w) (v : V) : ∃ F', Mem G w0 Ob A B F' μ (frz m v) w ∧ Tr B F F' μ μ w w := by
  cases v <;> simp only [E.frz] <;> first | exact h.frz1 _ | exact Mem.frzL _ h

theorem Mem.frzF (l : List V) : ∀ {F : Nat → Prop} {m : Hp}, Mem G w0 Ob A B F μ m w → ∃ F', Mem G w0 Ob A B F' μ (l.foldl E.frz m) w ∧ Tr B F F' μ μ w w := by
  induction l with
  | nil => intro F m h; exact ⟨F, h, Tr.refl _ _ _ _⟩
  | cons v r ih =>
    intro F m h
    obtain ⟨F1, h1, t1⟩ := h.frz v
    obtain ⟨F2, h2, t2⟩ := ih h1
    exact ⟨F2, h2, t1.trans t2⟩
end
end Go.E

set_option linter.unusedVariables false
namespace Go.E
open Go Go.RowKit

def toFz : Option Bx → Option Bx
  | some (.rows τ l) => some (.fz τ l)
  | o => o

theorem toFz_toFz (o : Option Bx) : toFz (toFz o) = toFz o := by
  cases o with
  | none => rfl
  | some x => cases x <;> rfl

theorem frz1_at (m : Hp) (v : V) (c : Nat) : (frz1 m v).at c = if c ∈ arrs1 v then toFz (m.at c) else m.at c := by
  cases v <;> simp only [frz1, arrs1, List.not_mem_nil, if_false, List.mem_singleton]
  rename_i b
  split
  · rename_i τ l hb
    rw [Hp.at_cons]
    by_cases h : b = c
    · subst h; simp [hb, toFz]
    · simp [h, Ne.symm h]
  · rename_i hb
    by_cases h : c = b
    · subst h; simp only [if_true]
      unfold toFz; split
      · rename_i τ l e; exact absurd e (hb τ l)
      · rfl
    · simp [h]

theorem frzL_at (cs : List V) : ∀ (m : Hp) (c : Nat), Hp.at (cs.foldl frz1 m) c = if c ∈ cs.flatMap arrs1 then toFz (m.at c) else m.at c := by
  induction cs with
  | nil => intro m c; simp
  | cons v r ih =>
    intro m c
    simp only [List.foldl_cons, ih, frz1_at, List.flatMap_cons, List.mem_append]
    by_cases h1 : c ∈ arrs1 v <;> by_cases h2 : c ∈ r.flatMap arrs1 <;> simp [h1, h2, toFz_toFz]

theorem frz_at (m : Hp) (v : V) (c : Nat) : (frz m v).at c = if c ∈ arrs v then toFz (m.at c) else m.at c := by
  cases v <;> simp only [frz, arrs] <;> first | exact frzL_at _ _ _ | exact frz1_at _ _ _

theorem castD_some {τ σ : Ty} {x : D τ} {y : D σ} (h : castD x = some y) : ∃ e : τ = σ, y = e ▸ x := by
  unfold castD at h
  split at h
  · rename_i e; cases h; exact ⟨e, rfl⟩
  · cases h

section
variable {G : List (Nat × List V)} {w0 : World} {Ob A B F X : Nat → Prop} {μ : Mu} {m : Hp} {w : World}

/-- The blocks of own rows that a value names lie in X. -/
def In (X : Nat → Prop) (μ : Mu) (m : Hp) (l : List Nat) : Prop := ∀ b ∈ l, ∀ τ r q ad, m.at b = some (.rows τ r) → μ b = some (some q) → q.a = some ad → X ad.block

theorem In.app {l r : List Nat} : In X μ m (l ++ r) ↔ In X μ m l ∧ In X μ m r := by
  unfold In; simp only [List.mem_append]
  exact ⟨fun h => ⟨fun b hb => h b (.inl hb), fun b hb => h b (.inr hb)⟩, fun h b hb => hb.elim (h.1 b) (h.2 b)⟩

/-- A slice as it is read. -/
structure SlR (F X : Nat → Prop) (w : World) (τ : Ty) (l : List (D τ)) (v : Value) (a : Option Addr) (cap : Nat) : Prop where
  val : v = .slice a l.length cap
  le : l.length ≤ cap
  nil : a = none → cap = 0
  at_ : ∀ ad, a = some ad → 0 < l.length → ad.spot = none ∧ X ad.block ∧ RowsAt F w τ l ad

theorem rowsOf_ok (h : Mem G w0 Ob A B F μ m w) (hX : ∀ b, F b → X b) {v : V} {cv : Value} (hr : R F B w μ v cv) (hv : In X μ m (arrs1 v)) {τ : Ty} {l : List (D τ)} (hl : rowsOf m τ v = some l) :
    ∃ a cap, SlR F X w τ l cv a cap := by
  cases v with
  | val σ x =>
    cases σ with
    | sl e =>
      simp only [rowsOf] at hl
      obtain ⟨e1, rfl⟩ := castD_some hl
      cases e1
      simp only [R, Ty.agg, RC] at hr
      obtain ⟨a, cap, e1, h1, h2, h3⟩ := hr
      cases e1
      exact ⟨a, cap, rfl, h1, h2, fun ad e hc => ⟨(h3 ad e hc).1, hX _ (h3 ad e hc).2.1, (h3 ad e hc).2.2⟩⟩
    | _ => simp [rowsOf] at hl
  | nil =>
    simp only [rowsOf, Option.some.injEq] at hl; subst hl
    simp only [R] at hr; subst hr
    exact ⟨none, 0, rfl, Nat.le_refl _, fun _ => rfl, fun _ e => by cases e⟩
  | arr b =>
    simp only [rowsOf] at hl
    simp only [R] at hr
    obtain ⟨o, e1, a0, n0, c0, rfl, e2⟩ := hr
    split at hl
    · rename_i σ r hb
      obtain ⟨e3, rfl⟩ := castD_some hl
      cases e3
      obtain ⟨q, e4, k1, k2, k3, k4, k5⟩ := h.box b _ hb
      rw [e1] at e4; cases e4
      obtain ⟨rfl, rfl, rfl⟩ := e2 q rfl
      exact ⟨q.a, q.cap, by rw [k1], k1 ▸ k2, k4, fun ad e _ => ⟨(k5 ad e).1, hv b (by simp [arrs1]) _ _ q ad hb e1 e, (k5 ad e).2.1⟩⟩
    · rename_i σ r hb
      obtain ⟨e3, rfl⟩ := castD_some hl
      cases e3
      obtain ⟨q, e4, k1, k2, k3, k4, k5⟩ := h.box b _ hb
      rw [e1] at e4; cases e4
      obtain ⟨rfl, rfl, rfl⟩ := e2 q rfl
      exact ⟨q.a, q.cap, by rw [k1], k1 ▸ k2, k4, fun ad e _ => ⟨(k5 ad e).1, hX _ (k5 ad e).2.1, (k5 ad e).2.2⟩⟩
    · cases hl
  | _ => simp [rowsOf] at hl

theorem RC_of_SlR (hX : ∀ b, F b → X b) {τ : Ty} {l : List (D τ)} {cv : Value} {a : Option Addr} {cap : Nat} (h : SlR F X w τ l cv a cap) : RC X w (.sl τ) l [cv] := by
  simp only [RC]
  exact ⟨a, cap, by rw [h.val], h.le, h.nil, fun ad e hc => ⟨(h.at_ ad e hc).1, (h.at_ ad e hc).2.1, fun i x hx => by
    obtain ⟨c, k1, k2⟩ := (h.at_ ad e hc).2.2 i x hx
    exact ⟨c, k1.mono hX (fun _ _ _ _ e => e), k2⟩⟩⟩

theorem typed1_ok (h : Mem G w0 Ob A B F μ m w) (hX : ∀ b, F b → X b) {v : V} {cv : Value} (hr : R F B w μ v cv) (hv : In X μ m (arrs1 v)) {τ : Ty} (hτ : τ.agg = false) {x : D τ} (hl : typed1 m τ v = some x) :
    RC X w τ x [cv] := by
  by_cases hval : ∃ σ y, v = .val σ y
  · obtain ⟨σ, y, rfl⟩ := hval
    simp only [typed1] at hl
    obtain ⟨e, rfl⟩ := castD_some hl
    cases e
    simp only [R, hτ] at hr
    exact hr.mono hX (fun _ _ _ _ e => e)
  · have h2 : ∃ e, ∃ (he : τ = .sl e), ∃ l, rowsOf m e v = some l ∧ x = he ▸ l := by
      cases v <;> simp only [typed1] at hl
      case val σ y => exact absurd ⟨σ, y, rfl⟩ hval
      all_goals
        cases τ <;> simp at hl
        exact ⟨_, rfl, _, hl, rfl⟩
    obtain ⟨e, he, l, hl2, hx⟩ := h2
    cases he; cases hx
    obtain ⟨a, cap, hs⟩ := rowsOf_ok h hX hr hv hl2
    exact RC_of_SlR hX hs

theorem asm_leaf {τ : Ty} (h1 : τ.agg = false) (h2 : τ ≠ .unit) {cs : List V} {x : D τ} {r : List V} (hl : asm m τ cs = some (x, r)) : ∃ v, cs = v :: r ∧ typed1 m τ v = some x := by
  cases cs with
  | nil => cases τ <;> simp [asm, Ty.agg] at hl h1 h2
  | cons v cs =>
    cases τ <;> simp [Ty.agg] at h1 h2 <;> simp only [asm] at hl <;> split at hl <;> simp at hl <;>
      (rename_i y hy; obtain ⟨e1, e2⟩ := hl; exact ⟨v, by rw [e2], by rw [← e1]; exact hy⟩)

theorem asm_ok (h : Mem G w0 Ob A B F μ m w) (hX : ∀ b, F b → X b) : ∀ (τ : Ty) {cs : List V} {vs : List Value} (hr : RL F B w μ cs vs) (hv : In X μ m (cs.flatMap arrs1)) {x : D τ} {r : List V} (hl : asm m τ cs = some (x, r)),
    ∃ v1 v2, vs = v1 ++ v2 ∧ RC X w τ x v1 ∧ RL F B w μ r v2 ∧ In X μ m (r.flatMap arrs1) := by
  intro τ
  have leaf : ∀ (τ : Ty), τ.agg = false → ∀ {cs : List V} {vs : List Value} (hr : RL F B w μ cs vs) (hv : In X μ m (cs.flatMap arrs1)) {x : D τ} {r : List V}
      (hl : ∃ v, cs = v :: r ∧ typed1 m τ v = some x),
      ∃ v1 v2, vs = v1 ++ v2 ∧ RC X w τ x v1 ∧ RL F B w μ r v2 ∧ In X μ m (r.flatMap arrs1) := by
    intro τ hτ cs vs hr hv x r hl
    obtain ⟨v, rfl, hl⟩ := hl
    cases vs with
    | nil => simp [RL] at hr
    | cons cv vs =>
      simp only [RL] at hr
      simp only [List.flatMap_cons, In.app] at hv
      exact ⟨[cv], vs, rfl, typed1_ok h hX hr.1 hv.1 hτ hl, hr.2, hv.2⟩
  induction τ with
  | pr a b iha ihb =>
    intro cs vs hr hv x r hl
    simp only [asm] at hl
    split at hl
    · rename_i y r1 h1
      split at hl
      · rename_i z r2 h2
        cases hl
        obtain ⟨v1, v2, rfl, k1, k2, k3⟩ := iha hr hv h1
        obtain ⟨v3, v4, rfl, k4, k5, k6⟩ := ihb k2 k3 h2
        exact ⟨v1 ++ v3, v4, by simp, by simp only [RC]; exact ⟨v1, v3, rfl, k1, k4⟩, k5, k6⟩
      · cases hl
    · cases hl
  | unit =>
    intro cs vs hr hv x r hl
    simp only [asm, Option.some.injEq, Prod.mk.injEq] at hl
    obtain ⟨_, rfl⟩ := hl
    exact ⟨[], vs, rfl, by simp only [RC], hr, hv⟩
  | q =>
    intro cs vs hr hv x r hl
    simp only [asm] at hl
    split at hl
    · rename_i a b c d e f r1
      cases vs with
      | nil => simp [RL] at hr
      | cons va vs => cases vs with
        | nil => simp [RL] at hr
        | cons vb vs => cases vs with
          | nil => simp [RL] at hr
          | cons vc vs => cases vs with
            | nil => simp [RL] at hr
            | cons vd vs => cases vs with
              | nil => simp [RL] at hr
              | cons ve vs => cases vs with
                | nil => simp [RL] at hr
                | cons vf vs =>
                  simp only [RL] at hr
                  simp only [List.flatMap_cons, In.app] at hv
                  split at hl
                  · rename_i a' b' c' d' e' f' ha hb hc hd he hf
                    cases hl
                    have ka := typed1_ok h hX hr.1 hv.1 rfl ha
                    have kb := typed1_ok h hX hr.2.1 hv.2.1 rfl hb
                    have kc := typed1_ok h hX hr.2.2.1 hv.2.2.1 rfl hc
                    have kd := typed1_ok h hX hr.2.2.2.1 hv.2.2.2.1 rfl hd
                    have ke := typed1_ok h hX hr.2.2.2.2.1 hv.2.2.2.2.1 rfl he
                    have kf := typed1_ok h hX hr.2.2.2.2.2.1 hv.2.2.2.2.2.1 rfl hf
                    simp only [RC, List.cons.injEq, and_true] at ka kb kc kd ke
                    simp only [RC] at kf
                    subst ka kb kc kd ke
                    obtain ⟨a, cap, kf0, h1, h2, h3⟩ := kf
                    cases kf0
                    refine ⟨[_, _, _, _, _, _], vs, rfl, ?_, hr.2.2.2.2.2.2, hv.2.2.2.2.2.2⟩
                    simp only [RC]
                    have hc : ∀ (i : Nat), ∃ c, ∀ x, (f' : List Q)[i]? = some x → RQ X w x c ∧ ∀ ad, a = some ad → CellsAt w ad.block (ad.off + i * 6) c := fun i => by
                      cases hi : (f' : List Q)[i]? with
                      | none => exact ⟨[], fun x e => by cases e⟩
                      | some y =>
                        cases ha : a with
                        | none =>
                          have h0 : (f' : List Q).length = 0 := by have := h2 ha; omega
                          have : (f' : List Q) = [] := List.length_eq_zero_iff.1 h0
                          rw [this] at hi; simp at hi
                        | some ad =>
                          obtain ⟨c, k1, k2⟩ := (h3 ad ha (by have h1 : (f' : List Q).length ≤ cap := h1; have := (List.getElem?_eq_some_iff.1 hi).1; omega)).2.2 i y hi
                          exact ⟨c, fun x e => by cases e; exact ⟨k1, fun ad' e' => by cases e'; exact k2⟩⟩
                    exact .mk _ _ _ _ _ _ a cap (fun i => (hc i).choose) h1 h2 (fun ad e hc => ⟨(h3 ad e hc).1, (h3 ad e hc).2.1⟩)
                      (fun i x e => ((hc i).choose_spec x e).1) (fun ad i x e e' => ((hc i).choose_spec x e').2 ad e)
                  · cases hl
    · cases hl
  | int k => intro cs vs hr hv x r hl; exact leaf (.int k) rfl hr hv (asm_leaf rfl (by simp) hl)
  | bool => intro cs vs hr hv x r hl; exact leaf .bool rfl hr hv (asm_leaf rfl (by simp) hl)
  | str => intro cs vs hr hv x r hl; exact leaf .str rfl hr hv (asm_leaf rfl (by simp) hl)
  | err => intro cs vs hr hv x r hl; exact leaf .err rfl hr hv (asm_leaf rfl (by simp) hl)
  | sl e => intro cs vs hr hv x r hl; exact leaf (.sl e) rfl hr hv (asm_leaf rfl (by simp) hl)

/-- A typed value, as the cells of what it was. -/
theorem typed_ok (h : Mem G w0 Ob A B F μ m w) (hX : ∀ b, F b → X b) {v : V} {cv : Value} (hr : R F B w μ v cv) (hv : In X μ m (arrs v)) {τ : Ty} {x : D τ} (hl : typed m τ v = some x) :
    (τ.agg = true → ∃ cs, cv = .agg cs ∧ RC X w τ x cs.toList) ∧ (τ.agg = false → RC X w τ x [cv]) := by
  cases v with
  | val σ y =>
    simp only [typed] at hl
    obtain ⟨e, rfl⟩ := castD_some hl
    cases e
    simp only [R] at hr
    constructor
    · intro ha; rw [ha] at hr; obtain ⟨cs, e, k⟩ := hr; exact ⟨cs, e, k.mono hX (fun _ _ _ _ e => e)⟩
    · intro ha; rw [ha] at hr; exact RC.mono hX (fun _ _ _ _ e => e) hr
  | agg cs =>
    simp only [typed] at hl
    split at hl
    · rename_i hta
      split at hl
      · rename_i x' hx
        cases hl
        simp only [R] at hr
        obtain ⟨vs, e, k⟩ := hr
        obtain ⟨v1, v2, k1, k2, k3, _⟩ := asm_ok h hX τ k hv hx
        have : v2 = [] := by cases v2 with
          | nil => rfl
          | cons _ _ => simp [RL] at k3
        subst this
        rw [List.append_nil] at k1
        exact ⟨fun _ => ⟨vs, e, k1 ▸ k2⟩, fun h => by rw [hta] at h; cases h⟩
      · cases hl
    · cases hl
  | _ =>
    simp only [typed] at hl
    constructor
    · intro ha
      cases τ <;> simp [typed1, Ty.agg] at hl ha
    · intro ha
      refine typed1_ok h hX hr ?_ ha hl
      first | exact hv | (intro b hb; simp [arrs1] at hb)
end
end Go.E

set_option linter.unusedVariables false
namespace Go.E
open Go Go.RowKit

/-! The operations, as the machine carries them out. -/

/-- What is said of a type holds of the program. -/
structure Lay (P : Program) (L : List (Nat × TL)) (t : Nat) (l : TL) : Prop where
  size : ∃ i, P.info? t = some i ∧ i.size = l.ty.width ∧ i.bytes ≤ 512 ∧ ∃ z, i.zero = some z ∧ z.cells.toList.map scal = l.zero
  pos : l.ty.width ≠ 0
  zlen : l.zero.length = l.ty.width
  und : ∃ d, P.underlying t = some d ∧ (match d with | .struct _ | .array _ _ => true | _ => false) = l.ty.agg
  kind : match l.k with
    | .int k => P.underlying t = some (.int k) ∧ l.ty = .int k
    | .bool => P.underlying t = some .bool ∧ l.ty = .bool
    | .str => P.underlying t = some .string ∧ l.ty = .str
    | .sl e => P.underlying t = some (.slice e) ∧ ∃ le, look L e = some le ∧ l.ty = .sl le.ty
    | .st fs => ∃ fields, P.underlying t = some (.struct fields) ∧ fs = (fields.toList.map fun f => (f.offset, f.type)) ∧
        (∀ f ∈ fields.toList, (f.name == "_") = false ∧ ∃ lu, look L f.type = some lu ∧ f.offset + lu.ty.width ≤ l.ty.width) ∧
        P.stoodInHeld t = false ∧ P.eqGuardType P.depth t = false
    | .err => (∃ ms, P.underlying t = some (.interface ms)) ∧ l.ty = .err
    | _ => True

theorem Lay.run_agg {P : Program} {L : List (Nat × TL)} {t : Nat} {l : TL} (h : Lay P L t l) (w : World) : (isAgg t).run P w = .ok l.ty.agg w := by
  obtain ⟨d, h1, h2⟩ := h.und
  rw [← h2]
  cases d <;> simp [isAgg, run_underlying h1]

theorem Lay.run_size {P : Program} {L : List (Nat × TL)} {t : Nat} {l : TL} (h : Lay P L t l) (w : World) : (sizeOf t).run P w = .ok l.ty.width w := by
  obtain ⟨i, h1, h2, _⟩ := h.size
  simp [Go.sizeOf, typeInfo, h1, h2]

theorem Lay.run_zero {P : Program} {L : List (Nat × TL)} {t : Nat} {l : TL} (h : Lay P L t l) : ∃ z, z.cells.toList.map scal = l.zero ∧ z.cells.size = l.ty.width ∧ ∀ w, (zeroValue t).run P w = .ok z w := by
  obtain ⟨i, h1, h2, _, z, h3, h4⟩ := h.size
  refine ⟨z, h4, ?_, fun w => ?_⟩
  · have := congrArg List.length h4
    simpa [h.zlen] using this
  · simp [zeroValue, typeInfo, h1, h3]

theorem scal_ok (F B : Nat → Prop) (w : World) (μ : Mu) (v : Value) : R F B w μ (scal v) v := by
  unfold scal; split
  all_goals simp only [R, Ty.agg, RC]
  exact ⟨_, rfl, fun _ => rfl, fun e => by cases e⟩

theorem scalL_ok (F B : Nat → Prop) (w : World) (μ : Mu) : ∀ (vs : List Value), RL F B w μ (vs.map scal) vs
  | [] => by simp [RL]
  | v :: r => by simp only [List.map_cons, RL]; exact ⟨scal_ok F B w μ v, scalL_ok F B w μ r⟩

theorem ofVal_ok (F B : Nat → Prop) (w : World) (μ : Mu) (v : Value) : R F B w μ (ofVal v) v := by
  unfold ofVal; split
  · rename_i cs; simp only [R]; exact ⟨cs, rfl, scalL_ok F B w μ _⟩
  · exact scal_ok F B w μ _

section
variable {P : Program} {G : List (Nat × List V)} {w0 : World} {Ob A B F F' : Nat → Prop} {μ μ' : Mu} {m m' : Hp} {w w' : World} {base : Nat}

structure Step1 (G : List (Nat × List V)) (w0 : World) (Ob A B F : Nat → Prop) (μ : Mu) (w : World) (base : Nat) (F' : Nat → Prop) (μ' : Mu) (m' : Hp) (w' : World) : Prop where
  mem : Mem G w0 Ob A B F' μ' m' w'
  tr : Tr B F F' μ μ' w w'
  loc : ∀ id, ¬ (base ≤ id ∧ id < base + 64) → μ id = none → μ' id = none

theorem Step1.refl (h : Mem G w0 Ob A B F μ m w) : Step1 G w0 Ob A B F μ w base F μ m w := ⟨h, Tr.refl _ _ _ _, fun _ _ h => h⟩

def Good (P : Program) (G : List (Nat × List V)) (w0 : World) (Ob A B F : Nat → Prop) (μ : Mu) (base : Nat) (o : Oper) (a : Act) (w : World) (v : V) (m' : Hp) : Prop :=
  ∀ (Q : Exit → Act → World → Prop) (N : Act → World → Prop),
    (∀ cv w' F' μ', Step1 G w0 Ob A B F μ w base F' μ' m' w' → R F' B w' μ' v cv → N (a.put o.dst cv) w') → o.wp P a w N Q

theorem Good.value {o : Oper} {a : Act} {v : V} {cv : Value} (h : (execOp a.eval o).run P w = .ok (.value cv) w') (hs : Step1 G w0 Ob A B F μ w base F' μ' m' w') (hr : R F' B w' μ' v cv) :
    Good P G w0 Ob A B F μ base o a w v m' := fun Q N hN => by
  unfold Oper.wp; rw [h]; exact hN cv w' F' μ' hs hr

theorem Good.skip {o : Oper} {a : Act} (h : (execOp a.eval o).run P w = .ok .skip w') (hs : Step1 G w0 Ob A B F μ w base F' μ' m' w') :
    Good P G w0 Ob A B F μ base o a w (.tup []) m' := fun Q N hN => by
  unfold Oper.wp; rw [h]; exact hN undef w' F' μ' hs (by simp only [R]; exact ⟨#[], rfl, by simp [RL]⟩)

theorem addr_add (b off n : Nat) : (⟨b, off, none⟩ : Addr).add n = ⟨b, off + n, none⟩ := by
  unfold Addr.add; split <;> simp_all

theorem RL.len : ∀ {cs : List V} {vs : List Value}, RL F B w μ cs vs → cs.length = vs.length
  | [], [], _ => rfl
  | _ :: _, _ :: _, h => by simp only [RL] at h; simp [RL.len h.2]
  | [], _ :: _, h => by simp [RL] at h
  | _ :: _, [], h => by simp [RL] at h

theorem RL.get : ∀ {cs : List V} {vs : List Value}, RL F B w μ cs vs → ∀ {i : Nat} {v : V}, cs[i]? = some v → ∃ cv, vs[i]? = some cv ∧ R F B w μ v cv
  | [], [], _, i, v, h => by simp at h
  | a :: x, b :: y, h, i, v, hi => by
    simp only [RL] at h
    cases i with
    | zero => simp at hi; subst hi; exact ⟨b, by simp, h.1⟩
    | succ i => simp at hi; obtain ⟨cv, k1, k2⟩ := RL.get h.2 hi; exact ⟨cv, by simpa using k1, k2⟩
  | [], _ :: _, h, _, _, _ => by simp [RL] at h
  | _ :: _, [], h, _, _, _ => by simp [RL] at h

theorem RL.drop : ∀ {cs : List V} {vs : List Value}, RL F B w μ cs vs → ∀ n, RL F B w μ (cs.drop n) (vs.drop n)
  | cs, vs, h, 0 => by simpa using h
  | [], [], _, n + 1 => by simp [RL]
  | a :: x, b :: y, h, n + 1 => by simp only [RL] at h; simpa using RL.drop h.2 n
  | [], _ :: _, h, _ => by simp [RL] at h
  | _ :: _, [], h, _ => by simp [RL] at h

theorem RL.take : ∀ {cs : List V} {vs : List Value}, RL F B w μ cs vs → ∀ n, RL F B w μ (cs.take n) (vs.take n)
  | _, _, h, 0 => by simp [RL]
  | [], [], _, n + 1 => by simp [RL]
  | a :: x, b :: y, h, n + 1 => by simp only [RL] at h; simp only [List.take_succ_cons, RL]; exact ⟨h.1, RL.take h.2 n⟩
  | [], _ :: _, h, _ => by simp [RL] at h
  | _ :: _, [], h, _ => by simp [RL] at h

theorem RL.app : ∀ {cs : List V} {vs : List Value} {ds : List V} {us : List Value}, RL F B w μ cs vs → RL F B w μ ds us → RL F B w μ (cs ++ ds) (vs ++ us)
  | [], [], _, _, _, k => by simpa using k
  | a :: x, b :: y, _, _, h, k => by simp only [RL] at h; simp only [List.cons_append, RL]; exact ⟨h.1, RL.app h.2 k⟩
  | [], _ :: _, _, _, h, _ => by simp [RL] at h
  | _ :: _, [], _, _, h, _ => by simp [RL] at h

/-- The cells of a typed value stand for its cells. -/
theorem leafs_ok : ∀ (τ : Ty) {x : D τ} {vs : List Value}, RC F w τ x vs → RL F B w μ (leafs τ x) vs
  | .pr a b, x, vs, h => by
    simp only [RC] at h; obtain ⟨c, d, rfl, h1, h2⟩ := h
    exact RL.app (leafs_ok a h1) (leafs_ok b h2)
  | .q, x, vs, h => by
    simp only [RC] at h
    cases h with
    | mk kind field text low high parts a cap c h1 h2 h3 h4 h5 =>
      simp only [leafs, Q.kind, Q.field, Q.text, Q.low, Q.high, Q.parts, RL, R, Ty.agg, RC, and_true, true_and]
      exact ⟨a, cap, rfl, h1, h2, fun ad e hc => ⟨(h3 ad e hc).1, (h3 ad e hc).2, fun i x hx => ⟨c i, h4 i x hx, h5 ad i x e hx⟩⟩⟩
  | .unit, x, vs, h => by simp only [RC] at h; subst h; simp [leafs, RL]
  | .int k, x, vs, h => by have h' := h; simp only [RC] at h; subst h; simp only [leafs, RL, R, Ty.agg, and_true]; exact h'
  | .bool, x, vs, h => by have h' := h; simp only [RC] at h; subst h; simp only [leafs, RL, R, Ty.agg, and_true]; exact h'
  | .str, x, vs, h => by have h' := h; simp only [RC] at h; subst h; simp only [leafs, RL, R, Ty.agg, and_true]; exact h'
  | .err, x, vs, h => by have h' := h; simp only [RC] at h; obtain ⟨v, rfl, _⟩ := h; simp only [leafs, RL, R, Ty.agg, and_true]; exact h'
  | .sl e, x, vs, h => by have h' := h; simp only [RC] at h; obtain ⟨_, _, rfl, _⟩ := h; simp only [leafs, RL, R, Ty.agg, and_true]; exact h'

/-- The cells of a value stand for the machine's cells of it. -/
theorem cells_ok {v : V} {cv : Value} (h : R F B w μ v cv) (hu : v ≠ .undef) : RL F B w μ v.cells cv.cells.toList := by
  cases v with
  | undef => exact absurd rfl hu
  | val τ x =>
    simp only [R] at h
    cases hτ : τ.agg with
    | true => rw [hτ] at h; obtain ⟨cs, rfl, k⟩ := h; exact leafs_ok τ k
    | false =>
      rw [hτ] at h
      have k := leafs_ok (B := B) (μ := μ) τ h
      have e : cv.cells.toList = [cv] := by
        have h1 := h
        cases τ with
        | int k => simp only [RC] at h1; simp at h1; subst h1; rfl
        | bool => simp only [RC] at h1; simp at h1; subst h1; rfl
        | str => simp only [RC] at h1; simp at h1; subst h1; rfl
        | unit => simp [RC] at h1
        | sl e => simp only [RC] at h1; obtain ⟨a, cap, e, _⟩ := h1; simp at e; subst e; rfl
        | err =>
          simp only [RC] at h1; obtain ⟨v, e, h2, h3⟩ := h1; simp at e; subst e
          cases hb : (x : Bool) with
          | false => rw [h2 hb]; rfl
          | true => obtain ⟨t, y, e⟩ := h3 hb; rw [e]; rfl
        | pr a b => cases hτ
        | q => cases hτ
      rw [e]; exact k
  | agg cs => simp only [R] at h; obtain ⟨vs, rfl, k⟩ := h; exact k
  | tup cs => simp only [R] at h; obtain ⟨vs, rfl, k⟩ := h; simp only [V.cells, Value.cells, RL, R, and_true]; exact ⟨vs, rfl, k⟩
  | nil => simp only [R] at h; subst h; simp [V.cells, Value.cells, RL, R]
  | nilp => simp only [R] at h; subst h; simp [V.cells, Value.cells, RL, R]
  | arr b => have h' := h; simp only [R] at h; obtain ⟨o, e, _, _, _, rfl, k⟩ := h; simp only [V.cells, Value.cells, RL, and_true]; exact h'
  | ptr b off => have h' := h; simp only [R] at h; obtain ⟨o, e, _, rfl, k⟩ := h; simp only [V.cells, Value.cells, RL, and_true]; exact h'
  | ep b i off => have h' := h; simp only [R] at h; obtain ⟨o, e, _, rfl, k⟩ := h; simp only [V.cells, Value.cells, RL, and_true]; exact h'
  | rp τ x => have h' := h; simp only [R] at h; obtain ⟨ad, cs, rfl, _⟩ := h; simp only [V.cells, Value.cells, RL, and_true]; exact h'
  | rc cs => have h' := h; simp only [R] at h; obtain ⟨ad, vs, rfl, _⟩ := h; simp only [V.cells, Value.cells, RL, and_true]; exact h'
  | fn f cs => have h' := h; simp only [R] at h; obtain ⟨y, rfl, _⟩ := h; simp only [V.cells, Value.cells, RL, and_true]; exact h'
end
end Go.E

set_option linter.unusedVariables false
namespace Go.E
open Go Go.RowKit

structure EnvOk (P : Program) (E : Env) : Prop where
  nat : E.ok
  lay : ∀ t l, look E.L t = some l → Lay P E.L t l

theorem wT_some {R : Type} {E : Env} {t : Nat} {K : TL → Option R} {r : R} (h : wT E t K = some r) : ∃ l, look E.L t = some l ∧ K l = some r := by
  unfold wT at h; split at h
  · rename_i l e; exact ⟨l, e, h⟩
  · cases h
theorem wE_some {R : Type} {E : Env} {t : Nat} {K : TL → Option R} {r : R} (h : wE E t K = some r) : ∃ l e le, look E.L t = some l ∧ l.k = .sl e ∧ look E.L e = some le ∧ K le = some r := by
  unfold wE at h
  obtain ⟨l, h1, h2⟩ := wT_some h
  split at h2
  · rename_i e he; obtain ⟨le, h3, h4⟩ := wT_some h2; exact ⟨l, e, le, h1, he, h3, h4⟩
  · cases h2
theorem wF_some {R : Type} {E : Env} {t i : Nat} {K : Nat → TL → Option R} {r : R} (h : wF E t i K = some r) : ∃ l fs off u lu, look E.L t = some l ∧ l.k = .st fs ∧ fs[i]? = some (off, u) ∧ look E.L u = some lu ∧ K off lu = some r := by
  unfold wF at h
  obtain ⟨l, h1, h2⟩ := wT_some h
  split at h2
  · rename_i fs he
    split at h2
    · rename_i off u hf; obtain ⟨lu, h3, h4⟩ := wT_some h2; exact ⟨l, fs, off, u, lu, h1, he, hf, h3, h4⟩
    · cases h2
  · cases h2
theorem iteB_some {R : Type} {b : Bool} {x y : Option R} {r : R} (h : iteB b x y = some r) : (b = true ∧ x = some r) ∨ (b = false ∧ y = some r) := by
  unfold iteB at h; cases b <;> simp_all
theorem iteB_none {R : Type} {b : Bool} {x : Option R} {r : R} (h : iteB b x none = some r) : b = true ∧ x = some r := by
  unfold iteB at h; cases b <;> simp_all
theorem bindO_some {α R : Type} {o : Option α} {f : α → Option R} {r : R} (h : bindO o f = some r) : ∃ x, o = some x ∧ f x = some r := by
  unfold bindO at h; cases o <;> simp_all
theorem wI_some {R : Type} {v : V} {K : Int → Option R} {r : R} (h : wI v K = some r) : ∃ (k : IntKind) (n : Int), v = .val (.int k) n ∧ K n = some r := by
  unfold wI at h; split at h
  · rename_i k n; exact ⟨k, n, rfl, h⟩
  · cases h
theorem zeroD_some {R : Type} {τ : Ty} {cs : List V} {K : D τ → Option R} {r : R} (h : zeroD τ cs K = some r) : ∃ x, asm [] τ cs = some (x, []) ∧ K x = some r := by
  unfold zeroD at h; split at h
  · rename_i x e; exact ⟨x, e, h⟩
  · cases h

/-- What an operation yields. -/
def opF (E : Env) (o : Op) (base : Nat) (s : St) : Option (V × Hp) := opK E o base s fun v m => some (v, m)

theorem opK_eq {E : Env} {R : Type} (hE : E.ok) (o : Op) (base : Nat) (s : St) (K : V → Hp → Option R) : opK E o base s K = (opF E o base s).bind fun p => K p.1 p.2 := by
  unfold opF; rw [opK_bind hE]; rfl

section
variable {P : Program} {E : Env} {w0 : World} {Ob A B F : Nat → Prop} {μ : Mu} {w : World} {base : Nat} {s : St} {a : Act} {v : V} {m' : Hp}

/-- All that an operation needs to know. -/
structure Pre (P : Program) (E : Env) (w0 : World) (Ob A B F : Nat → Prop) (μ : Mu) (s : St) (a : Act) (w : World) : Prop where
  env : EnvOk P E
  mem : Mem E.G w0 Ob A B F μ s.m w
  ev : ∀ x, R F B w μ (opnd E s x) (a.eval x)

theorem Good.same {o : Oper} (h : Pre P E w0 Ob A B F μ s a w) {cv : Value} (hr : (execOp a.eval o).run P w = .ok (.value cv) w) (hv : R F B w μ v cv) : Good P E.G w0 Ob A B F μ base o a w v s.m :=
  Good.value hr (Step1.refl h.mem) hv

theorem good_move (h : Pre P E w0 Ob A B F μ s a w) {o : Oper} {x : Operand} (ho : o.op = .move x) (hf : opF E o.op base s = some (v, m')) : Good P E.G w0 Ob A B F μ base o a w v m' := by
  rw [ho] at hf; simp only [opF, opK, Option.some.injEq, Prod.mk.injEq] at hf
  obtain ⟨rfl, rfl⟩ := hf
  exact Good.same h (by unfold execOp; rw [ho]; rfl) (h.ev x)
theorem good_assign (h : Pre P E w0 Ob A B F μ s a w) {o : Oper} {x : Operand} (ho : o.op = .assign x) (hf : opF E o.op base s = some (v, m')) : Good P E.G w0 Ob A B F μ base o a w v m' := by
  rw [ho] at hf; simp only [opF, opK, Option.some.injEq, Prod.mk.injEq] at hf
  obtain ⟨rfl, rfl⟩ := hf
  exact Good.same h (by unfold execOp; rw [ho]; rfl) (h.ev x)

theorem R_bool {b : Bool} {cv : Value} (h : R F B w μ (.val .bool b) cv) : cv = .bool b := by simpa [R, Ty.agg, RC] using h
theorem R_int {k : IntKind} {n : Int} {cv : Value} (h : R F B w μ (.val (.int k) n) cv) : cv = .int k n := by simpa [R, Ty.agg, RC] using h
theorem R_str {x : ByteArray} {cv : Value} (h : R F B w μ (.val .str x) cv) : cv = .string x := by simpa [R, Ty.agg, RC] using h
theorem mk_bool (b : Bool) : R F B w μ (.val .bool b) (.bool b) := by simp [R, Ty.agg, RC]
theorem mk_int (k : IntKind) (n : Int) : R F B w μ (.val (.int k) n) (.int k n) := by simp [R, Ty.agg, RC]
theorem mk_str (x : ByteArray) : R F B w μ (.val .str x) (.string x) := by simp [R, Ty.agg, RC]

theorem good_pick (h : Pre P E w0 Ob A B F μ s a w) {o : Oper} {c x y : Operand} (ho : o.op = .pick c x y) (hf : opF E o.op base s = some (v, m')) : Good P E.G w0 Ob A B F μ base o a w v m' := by
  rw [ho] at hf; simp only [opF, opK] at hf
  split at hf
  · rename_i t hc
    have ec := R_bool (hc ▸ h.ev c)
    rcases iteB_some hf with ⟨ht, hf⟩ | ⟨ht, hf⟩ <;> simp only [Option.some.injEq, Prod.mk.injEq] at hf <;> obtain ⟨rfl, rfl⟩ := hf
    · exact Good.same h (by unfold execOp; rw [ho]; simp [ec, asBool, ht]) (h.ev x)
    · exact Good.same h (by unfold execOp; rw [ho]; simp [ec, asBool, ht]) (h.ev y)
  · cases hf

theorem CellsAt.at0 {b off : Nat} {cs : List Value} (h : CellsAt w b off cs) {j : Nat} {cv : Value} (hj : cs[j]? = some cv) : w.cell? ⟨b, off + j, none⟩ = some cv := h j cv hj

theorem CellsAt.sub {b off : Nat} {cs : List Value} (h : CellsAt w b off cs) (i n : Nat) : CellsAt w b (off + i) ((cs.drop i).take n) := fun j cv hj => by
  have : cs[i + j]? = some cv := by
    rw [List.getElem?_take] at hj; split at hj
    · rw [List.getElem?_drop] at hj; exact hj
    · cases hj
  rw [Nat.add_assoc]; exact h _ _ this

/-- A variable is read. -/
theorem run_loadVar {t : Nat} {l : TL} (hl : Lay P E.L t l) {b off : Nat} {cs : List Value} (hc : CellsAt w b off cs) (hn : cs.length = l.ty.width) :
    (l.ty.agg = true → (loadVar t ⟨b, off, none⟩).run P w = .ok (.agg cs.toArray) w) ∧ (l.ty.agg = false → ∀ cv, cs = [cv] → (loadVar t ⟨b, off, none⟩).run P w = .ok cv w) := by
  constructor
  · intro ha
    have h1 := run_loadCells_list (P := P) w ⟨b, off, none⟩ cs (fun j v hj => by rw [addr_add]; exact hc j v hj)
    simp [loadVar, hl.run_agg, ha, hl.run_size, ← hn, h1]
  · intro ha cv e
    have h1 := hc 0 cv (by simp [e])
    simp at h1
    simp [loadVar, hl.run_agg, ha, h1]

theorem width_one {τ : Ty} (h : τ.agg = false) (h2 : τ ≠ .unit) : τ.width = 1 := by cases τ <;> simp_all [Ty.agg, Ty.width]

theorem cellK_some {R : Type} {l : TL} {cs : List V} {off : Nat} {m : Hp} {K : V → Hp → Option R} {r : R} (h : cellK l cs off m K = some r) :
    (l.ty.agg = true ∧ off + l.ty.width ≤ cs.length ∧ K (.agg ((cs.drop off).take l.ty.width)) m = some r) ∨ (l.ty.agg = false ∧ ∃ v, cs[off]? = some v ∧ K v m = some r) := by
  unfold cellK at h; split at h
  · rename_i ha
    split at h
    · rename_i hk; exact .inl ⟨ha, hk, h⟩
    · cases h
  · rename_i ha
    split at h
    · rename_i v hv; exact .inr ⟨ha, v, hv, h⟩
    · cases h

/-- A variable in a row of cells, given by values. -/
theorem cell_load {t : Nat} {l : TL} (hl : Lay P E.L t l) {b off : Nat} {cs : List V} {vs : List Value} (hr : RL F B w μ cs vs) (hc : CellsAt w b off vs) {k : Nat} {m : Hp}
    (hf : cellK l cs k m (fun v m => some (v, m)) = some (v, m')) : m' = m ∧ ∃ cv, (loadVar t ⟨b, off + k, none⟩).run P w = .ok cv w ∧ R F B w μ v cv := by
  rcases cellK_some hf with ⟨ha, hk, hf⟩ | ⟨ha, u, hu, hf⟩ <;> simp only [Option.some.injEq, Prod.mk.injEq] at hf <;> obtain ⟨rfl, rfl⟩ := hf
  · have hn : ((vs.drop k).take l.ty.width).length = l.ty.width := by have := RL.len hr; simp; omega
    exact ⟨rfl, _, (run_loadVar hl (hc.sub k l.ty.width) hn).1 ha, by simp only [R]; exact ⟨_, rfl, (hr.drop k).take _⟩⟩
  · obtain ⟨cv, h1, h2⟩ := hr.get hu
    have hc1 : CellsAt w b (off + k) [cv] := fun j z hj => by
      cases j with
      | zero => simp at hj; subst hj; exact hc k cv h1
      | succ j => simp at hj
    have hw := hl.pos
    exact ⟨rfl, cv, (run_loadVar hl hc1 (by rw [width_one ha (fun e => by rw [e] at hw; exact hw rfl)]; rfl)).2 ha cv rfl, h2⟩

theorem atOff_ok : ∀ (τ : Ty) {x : D τ} {cs : List Value}, RC F w τ x cs → ∀ {off : Nat} {σ : Ty} {y : D σ}, atOff τ x off σ = some y → σ ≠ .unit →
    ∃ d, (cs.drop off).take σ.width = d ∧ RC F w σ y d ∧ off + σ.width ≤ cs.length := by
  intro τ
  have whole : ∀ (τ : Ty) {x : D τ} {cs : List Value}, RC F w τ x cs → ∀ {off : Nat} {σ : Ty} {y : D σ}, off = 0 → castD x = some y →
      ∃ d, (cs.drop off).take σ.width = d ∧ RC F w σ y d ∧ off + σ.width ≤ cs.length := by
    intro τ x cs h off σ y h0 hy
    obtain ⟨e, rfl⟩ := castD_some hy
    cases e; subst h0
    have := h.len
    exact ⟨cs, by simp [← this], h, by omega⟩
  induction τ with
  | pr a b iha ihb =>
    intro x cs h off σ y hy hσ
    simp only [atOff] at hy
    split at hy
    · rename_i h0; exact whole _ h h0.1 hy
    · simp only [RC] at h
      obtain ⟨c, d, rfl, h1, h2⟩ := h
      have l1 := h1.len
      split at hy
      · obtain ⟨e, k1, k2, k3⟩ := iha h1 hy hσ
        refine ⟨e, ?_, k2, by simp; omega⟩
        rw [← k1, List.drop_append_of_le_length (by omega), List.take_append_of_le_length (by simp; omega)]
      · rename_i hlt
        obtain ⟨e, k1, k2, k3⟩ := ihb h2 hy hσ
        refine ⟨e, ?_, k2, by simp; omega⟩
        rw [← k1, ← l1]
        congr 1
        rw [List.drop_append, List.drop_eq_nil_of_le (by omega)]; simp
  | q =>
    intro x cs h off σ y hy hσ
    simp only [atOff] at hy
    split at hy
    · rename_i h0; exact whole _ h h0.1 hy
    · simp only [RC] at h
      cases h with
      | mk kind field text low high parts a cap c h1 h2 h3 h4 h5 =>
        split at hy
        all_goals first
          | cases hy; done
          | (obtain ⟨e, rfl⟩ := castD_some hy; cases e
             refine ⟨_, rfl, ?_, by simp [Ty.width]⟩
             simp [RC, Ty.width, Q.kind, Q.field, Q.text, Q.low, Q.high, Q.parts]
             try exact ⟨a, cap, ⟨rfl, rfl⟩, h1, h2, fun ad e hc => ⟨(h3 ad e hc).1, (h3 ad e hc).2, fun i x hx => ⟨c i, h4 i x hx, h5 ad i x e hx⟩⟩⟩)
  | int k => intro x cs h off σ y hy hσ; simp only [atOff] at hy; split at hy <;> first | exact whole _ h ‹_› hy | cases hy
  | bool => intro x cs h off σ y hy hσ; simp only [atOff] at hy; split at hy <;> first | exact whole _ h ‹_› hy | cases hy
  | str => intro x cs h off σ y hy hσ; simp only [atOff] at hy; split at hy <;> first | exact whole _ h ‹_› hy | cases hy
  | err => intro x cs h off σ y hy hσ; simp only [atOff] at hy; split at hy <;> first | exact whole _ h ‹_› hy | cases hy
  | unit => intro x cs h off σ y hy hσ; simp only [atOff] at hy; split at hy <;> first | exact whole _ h ‹_› hy | cases hy
  | sl e => intro x cs h off σ y hy hσ; simp only [atOff] at hy; split at hy <;> first | exact whole _ h ‹_› hy | cases hy

theorem Lay.notUnit {L : List (Nat × TL)} {t : Nat} {l : TL} (h : Lay P L t l) : l.ty ≠ .unit := fun e => by
  have := h.pos; rw [e] at this; exact this rfl

/-- A variable in a typed value's cells. -/
theorem typed_load {F' : Nat → Prop} {t : Nat} {l : TL} (hl : Lay P E.L t l) (hF : ∀ b, F' b → F b) {b o : Nat} {τ : Ty} {x : D τ} {cs : List Value} (hr : RC F' w τ x cs) (hc : CellsAt w b o cs) {off : Nat} {m : Hp}
    (hf : loadRp τ x off l m (fun v m => some (v, m)) = some (v, m')) : m' = m ∧ ∃ cv, (loadVar t ⟨b, o + off, none⟩).run P w = .ok cv w ∧ R F B w μ v cv := by
  unfold loadRp at hf
  split at hf
  · rename_i y hy
    simp only [Option.some.injEq, Prod.mk.injEq] at hf; obtain ⟨rfl, rfl⟩ := hf
    obtain ⟨d, k1, k2, k3⟩ := atOff_ok τ hr hy hl.notUnit
    have k2' : RC F w l.ty y d := k2.mono hF (fun _ _ _ _ e => e)
    have hc' : CellsAt w b (o + off) d := k1 ▸ hc.sub off l.ty.width
    have hn := k2.len
    refine ⟨rfl, ?_⟩
    cases ha : l.ty.agg with
    | true => exact ⟨_, (run_loadVar hl hc' hn).1 ha, by simp only [R, ha]; exact ⟨_, rfl, k2'⟩⟩
    | false =>
      have hw := width_one ha hl.notUnit
      obtain ⟨cv, rfl⟩ : ∃ cv, d = [cv] := List.length_eq_one_iff.1 (hn.trans hw)
      exact ⟨cv, (run_loadVar hl hc' hn).2 ha cv rfl, by simp only [R, ha]; exact k2'⟩
  · cases hf

theorem atL_some {α : Type} {l : List α} {i : Int} {x : α} (h : atL l i = some x) : 0 ≤ i ∧ l[i.toNat]? = some x := by
  unfold atL at h; split at h
  · exact ⟨‹_›, h⟩
  · cases h

/-- An element of own rows, by its address. -/
theorem ep_at (h : Pre P E w0 Ob A B F μ s a w) {b : Nat} {i : Int} {off : Nat} {τ : Ty} {r : List (D τ)} {x : D τ} {cv : Value} (hv : R F B w μ (.ep b i off) cv)
    (hb : s.m.at b = some (.rows τ r) ∨ s.m.at b = some (.fz τ r)) (hx : atL r i = some x) :
    ∃ (ad : Addr) (c : List Value), cv = .pointer (some ⟨ad.block, ad.off + i.toNat * τ.width + off, none⟩) ∧ RC F w τ x c ∧ CellsAt w ad.block (ad.off + i.toNat * τ.width) c := by
  obtain ⟨h0, hx⟩ := atL_some hx
  simp only [R] at hv
  obtain ⟨o, e1, p, rfl, e2⟩ := hv
  have : ∃ q, μ b = some (some q) ∧ q.wd = τ.width ∧ ∀ ad, q.a = some ad → RowsAt F w τ r ad := by
    rcases hb with hb | hb
    · obtain ⟨q, e4, k1, k2, k3, k4, k5⟩ := h.mem.box b _ hb; exact ⟨q, e4, k3, fun ad e => (k5 ad e).2.1⟩
    · obtain ⟨q, e4, k1, k2, k3, k4, k5⟩ := h.mem.box b _ hb; exact ⟨q, e4, k3, fun ad e => (k5 ad e).2.2⟩
  obtain ⟨q, e4, k3, k5⟩ := this
  rw [e1] at e4; cases e4
  obtain ⟨ad, e5, rfl⟩ := e2 q rfl
  obtain ⟨c, k6, k7⟩ := k5 ad e5 i.toNat x hx
  exact ⟨ad, c, by rw [k3, Nat.add_assoc], k6, k7⟩

theorem good_load (h : Pre P E w0 Ob A B F μ s a w) {o : Oper} {t : Nat} {x : Operand} (ho : o.op = .load t x) (hf : opF E o.op base s = some (v, m')) : Good P E.G w0 Ob A B F μ base o a w v m' := by
  rw [ho] at hf; simp only [opF, opK] at hf
  obtain ⟨l, hl0, hf⟩ := wT_some hf
  have hl := h.env.lay t l hl0
  have hx := h.ev x
  have fin : ∀ {p : Addr} {cv : Value}, a.eval x = .pointer (some p) → (loadVar t p).run P w = .ok cv w → R F B w μ v cv → m' = s.m → Good P E.G w0 Ob A B F μ base o a w v m' := by
    intro p cv e1 e2 e3 e4
    subst e4
    refine Good.same h (cv := cv) ?_ e3
    unfold execOp; rw [ho]; simp [e1, Instr.loadAt, Instr.sureAddr, e2]
  split at hf
  · rename_i b off he
    rw [he] at hx
    split at hf
    · rename_i cs hb
      obtain ⟨q, e4, ad, vs, k1, k2, k3, k4, k5⟩ := h.mem.box b _ hb
      simp only [R] at hx
      obtain ⟨o', e1, p, e2, e3⟩ := hx
      rw [e1] at e4; cases e4
      obtain ⟨ad', e5, rfl⟩ := e3 q rfl
      rw [k1] at e5; cases e5
      obtain ⟨rfl, cv, e6, e7⟩ := cell_load hl k3 k4 hf
      exact fin e2 e6 e7 rfl
    · cases hf
  · rename_i cs he
    rw [he] at hx
    simp only [R] at hx
    obtain ⟨ad, vs, e1, e2, e3, e4, e5⟩ := hx
    obtain ⟨rfl, cv, e6, e7⟩ := cell_load hl e4 e5 hf
    refine fin (p := ad) e1 ?_ e7 rfl
    cases ad; simp at e2; subst e2; simpa using e6
  · rename_i τ y he
    rw [he] at hx
    simp only [R] at hx
    obtain ⟨ad, cs, e1, e2, e3, e4, e5⟩ := hx
    obtain ⟨rfl, cv, e6, e7⟩ := typed_load (B := B) (μ := μ) hl (fun _ x => x) e4 e5 hf
    refine fin (p := ad) e1 ?_ e7 rfl
    cases ad; simp at e2; subst e2; simpa using e6
  · rename_i b i off he
    rw [he] at hx
    split at hf
    · rename_i τ r hb
      obtain ⟨y, hy, hf⟩ := bindO_some hf
      obtain ⟨ad, c, k1, k2, k3⟩ := ep_at h hx (.inl hb) hy
      obtain ⟨rfl, cv, e6, e7⟩ := typed_load (B := B) (μ := μ) hl (fun _ x => x) k2 k3 hf
      exact fin k1 e6 e7 rfl
    · rename_i τ r hb
      obtain ⟨y, hy, hf⟩ := bindO_some hf
      obtain ⟨ad, c, k1, k2, k3⟩ := ep_at h hx (.inr hb) hy
      obtain ⟨rfl, cv, e6, e7⟩ := typed_load (B := B) (μ := μ) hl (fun _ x => x) k2 k3 hf
      exact fin k1 e6 e7 rfl
    · cases hf
  · cases hf
end
end Go.E

set_option linter.unusedVariables false
namespace Go.E
open Go Go.RowKit

theorem bytesLess_total : ∀ (a b : List UInt8), (Op.bytesLess a b || a == b) = !Op.bytesLess b a
  | [], [] => by simp [Op.bytesLess]
  | [], _ :: _ => by simp [Op.bytesLess]
  | _ :: _, [] => by simp [Op.bytesLess]
  | x :: a, y :: b => by
    have ih := bytesLess_total a b
    simp only [Op.bytesLess]
    rcases Nat.lt_trichotomy x.toNat y.toNat with h | h | h
    · have h1 : x < y := UInt8.lt_iff_toNat_lt.2 h
      have h2 : ¬ y < x := fun e => by have := UInt8.lt_iff_toNat_lt.1 e; omega
      have h3 : ¬ y = x := fun e => by subst e; omega
      simp [h1, h2, h3]
    · have h1 : x = y := UInt8.toNat_inj.1 h
      subst h1
      simpa using ih
    · have h1 : y < x := UInt8.lt_iff_toNat_lt.2 h
      have h2 : ¬ x < y := fun e => by have := UInt8.lt_iff_toNat_lt.1 e; omega
      have h3 : ¬ x = y := fun e => by subst e; omega
      simp [h1, h2, h3]

theorem eqS_eq (a b : ByteArray) : (a.toList == b.toList) = eqS a b := by
  unfold eqS
  by_cases h : a = b
  · simp [h]
  · have : a.toList ≠ b.toList := fun e => h (by
      rw [ByteArray.toList_eq, ByteArray.toList_eq] at e
      cases a; cases b; simp at e; simp [e])
    simp [h, this]

section
variable {P : Program} {E : Env} {w0 : World} {Ob A B F : Nat → Prop} {μ : Mu} {w : World} {base : Nat} {s : St} {a : Act} {v : V} {m' : Hp}

theorem good_nilCheck (h : Pre P E w0 Ob A B F μ s a w) {o : Oper} {x : Operand} (ho : o.op = .nilCheck x) (hf : opF E o.op base s = some (v, m')) : Good P E.G w0 Ob A B F μ base o a w v m' := by
  rw [ho] at hf; simp only [opF, opK] at hf
  have hx := h.ev x
  have fin : (∃ p, a.eval x = .pointer (some p)) → v = opnd E s x → m' = s.m → Good P E.G w0 Ob A B F μ base o a w v m' := by
    rintro ⟨p, e1⟩ rfl rfl
    exact Good.same h (cv := a.eval x) (by unfold execOp; rw [ho]; simp [e1]) hx
  split at hf
  · rename_i b off he; simp only [Option.some.injEq, Prod.mk.injEq] at hf
    rw [he] at hx; simp only [R] at hx; obtain ⟨_, _, p, e, _⟩ := hx
    exact fin ⟨p, e⟩ (by rw [he]; exact hf.1.symm) hf.2.symm
  · rename_i cs he; simp only [Option.some.injEq, Prod.mk.injEq] at hf
    rw [he] at hx; simp only [R] at hx; obtain ⟨p, _, e, _⟩ := hx
    exact fin ⟨p, e⟩ (by rw [he]; exact hf.1.symm) hf.2.symm
  · rename_i τ y he; simp only [Option.some.injEq, Prod.mk.injEq] at hf
    rw [he] at hx; simp only [R] at hx; obtain ⟨p, _, e, _⟩ := hx
    exact fin ⟨p, e⟩ (by rw [he]; exact hf.1.symm) hf.2.symm
  · rename_i b i off he; simp only [Option.some.injEq, Prod.mk.injEq] at hf
    rw [he] at hx; simp only [R] at hx; obtain ⟨_, _, p, e, _⟩ := hx
    exact fin ⟨p, e⟩ (by rw [he]; exact hf.1.symm) hf.2.symm
  · rename_i f caps he; simp only [Option.some.injEq, Prod.mk.injEq] at hf
    obtain ⟨rfl, rfl⟩ := hf
    rw [he] at hx; have hx' := hx; simp only [R] at hx'; obtain ⟨c, e, _⟩ := hx'
    exact Good.same h (cv := a.eval x) (by unfold execOp; rw [ho]; simp [e]) hx
  · cases hf

theorem run_binI {op : BinOp} {k : IntKind} {x y : Int} {t : Nat} {v : V} (hf : binI op k x y = some v) : ∃ cv, (binOp op t (.int k x) (.int k y)).run P w = .ok cv w ∧ R F B w μ v cv := by
  cases op <;> simp only [binI, Option.some.injEq] at hf <;> first | (cases hf; done) | subst hf
  · exact ⟨_, by simp [binOp, Op.intArith]; rfl, mk_int _ _⟩
  · exact ⟨_, by simp [binOp, Op.intArith]; rfl, mk_int _ _⟩
  · exact ⟨_, by simp [binOp, Op.intArith]; rfl, mk_int _ _⟩
  · exact ⟨_, by simp [binOp, Op.intBits]; rfl, mk_int _ _⟩
  · exact ⟨.bool (eqI x y), by simp [binOp, Op.intCmp, eqI, BEq.beq], mk_bool _⟩
  · exact ⟨.bool (notB (eqI x y)), by simp [binOp, Op.intCmp, eqI, notB, bne, BEq.beq], mk_bool _⟩
  · exact ⟨.bool (ltI x y), by simp [binOp, Op.intCmp, ltI], mk_bool _⟩
  · exact ⟨.bool (leI x y), by simp [binOp, Op.intCmp, leI], mk_bool _⟩
  · exact ⟨.bool (ltI y x), by simp [binOp, Op.intCmp, ltI], mk_bool _⟩
  · exact ⟨.bool (leI y x), by simp [binOp, Op.intCmp, leI], mk_bool _⟩

theorem run_binS {op : BinOp} {x y : ByteArray} {t : Nat} {v : V} (hf : binS op x y = some v) : ∃ cv, (binOp op t (.string x) (.string y)).run P w = .ok cv w ∧ R F B w μ v cv := by
  have e := eqS_eq x y
  have tot : (ltS x y || eqS x y) = !(ltS y x) := by rw [← e]; exact bytesLess_total _ _
  cases op <;> simp only [binS, Option.some.injEq] at hf <;> first | (cases hf; done) | subst hf
  · exact ⟨.bool (eqS x y), by simp [binOp, Op.stringOp, e], mk_bool _⟩
  · exact ⟨.bool (notB (eqS x y)), by simp [binOp, Op.stringOp, e, notB], mk_bool _⟩
  · exact ⟨.bool (ltS x y), by simp [binOp, Op.stringOp, ltS], mk_bool _⟩
  · refine ⟨.bool (notB (ltS y x)), ?_, mk_bool _⟩
    have : (Op.bytesLess x.toList y.toList || (x.toList == y.toList)) = notB (ltS y x) := by rw [e]; exact tot
    simp only [binOp, Op.stringOp, this, Sem.run_pure]
  · refine ⟨.bool (ltS y x), ?_, mk_bool _⟩
    have : (!(Op.bytesLess x.toList y.toList || (x.toList == y.toList))) = ltS y x := by rw [e]; exact (congrArg not tot).trans (by simp)
    simp only [binOp, Op.stringOp, this, Sem.run_pure]
  · exact ⟨.bool (notB (ltS x y)), by simp [binOp, Op.stringOp, ltS, notB], mk_bool _⟩

theorem exec_binOp {ρ : Operand → Value} {o : Oper} {op : BinOp} {t u : Nat} {x y : Operand} (ho : o.op = .binOp op t x y u) {cv : Value}
    (hg : (eqGuard op t x y (ρ x) (ρ y)).run P w = .ok () w) (hb : (binOp op t (ρ x) (ρ y)).run P w = .ok cv w) : (execOp ρ o).run P w = .ok (.value cv) w := by
  unfold execOp; rw [ho]; simp [hg, hb]

theorem guard_plain {op : BinOp} {t : Nat} {x y : Operand} {a b : Value} (h1 : ∀ cs, a ≠ .agg cs) (h2 : a = .nilIface → b = .nilIface → ∃ c, y = .const c) : (eqGuard op t x y a b).run P w = .ok () w := by
  cases op
  case eql => cases a <;> cases b <;> first | rfl | (exact absurd rfl (h1 _)) | (obtain ⟨c, rfl⟩ := h2 rfl rfl; simp [eqGuard])
  case neq => cases a <;> cases b <;> first | rfl | (exact absurd rfl (h1 _)) | (obtain ⟨c, rfl⟩ := h2 rfl rfl; simp [eqGuard])
  all_goals rfl

theorem part_scal {E : Env} (hE : EnvOk P E) {u off : Nat} {l : TL} (hl : look E.L u = some l) (hk : l.ty.agg = false) {xs : Array Value} {cv : Value} (hx : xs.toList[off]? = some cv) : (part u xs off).run P w = .ok cv w := by
  have h := hE.lay u l hl
  have : xs[off]? = some cv := by simpa using hx
  simp [part, h.run_agg, hk, this]

theorem run_eqB {E : Env} (hE : EnvOk P E) {u : Nat} {l : TL} (hl : look E.L u = some l) {x y : V} {cx cy : Value} (hx : R F B w μ x cx) (hy : R F B w μ y cy)
    {c : Bool} (he : eqB l.k x y = some c) (d : Nat) : (Op.equalIn (d + 1) u cx cy).run P w = .ok c w := by
  have h := (hE.lay u l hl).kind
  unfold eqB at he
  split at he
  · rename_i hk; rw [hk] at h
    have e1 := R_bool hx; have e2 := R_bool hy; subst e1 e2
    cases he
    rw [run_equalIn_bool' w d u _ _ h.1]; rfl
  · rename_i hk; rw [hk] at h
    split at he
    · rename_i e; subst e
      have e1 := R_int hx; have e2 := R_int hy; subst e1 e2
      cases he
      rw [run_equalIn_int w d u _ _ _ _ h.1]; simp [eqI, BEq.beq]
    · cases he
  · rename_i hk; rw [hk] at h
    have e1 := R_str hx; have e2 := R_str hy; subst e1 e2
    cases he
    rw [run_equalIn_string w d u _ _ h.1, eqS_eq]
  · cases he

def TK.basic : TK → Bool
  | .int _ => true
  | .bool => true
  | .str => true
  | _ => false

theorem eqB_agg {k : TK} {x y : V} {c : Bool} (he : eqB k x y = some c) : k.basic = true := by
  unfold eqB at he; split at he <;> first | rfl | cases he

theorem Lay.noAgg {L : List (Nat × TL)} {t : Nat} {l : TL} (h : Lay P L t l) (hk : l.k.basic = true) : l.ty.agg = false := by
  have := h.kind
  cases e : l.k <;> rw [e] at this hk <;> simp [TK.basic] at hk <;> rw [this.2] <;> rfl

theorem run_eqL {E : Env} (hE : EnvOk P E) (d : Nat) {xs ys : Array Value} : ∀ (fs : List Field) (o : Nat) (x y : List V) (cx cy : List Value), (∀ j f, fs[j]? = some f → f.offset = o + j) → (∀ f ∈ fs, (f.name == "_") = false) →
    (∀ j v, cx[j]? = some v → xs.toList[o + j]? = some v) → (∀ j v, cy[j]? = some v → ys.toList[o + j]? = some v) → RL F B w μ x cx → RL F B w μ y cy →
    ∀ c, eqL E.L (fs.map (·.type)) x y = some c → (Op.eqFields (d + 1) xs ys fs).run P w = .ok c w
  | [], o, x, y, cx, cy, _, _, _, _, _, _, c, he => by simp [eqL] at he
  | [f], o, [a], [b], [ca], [cb], ho, hn, h1, h2, hx, hy, c, he => by
    simp only [List.map_cons, List.map_nil, eqL] at he
    split at he
    · rename_i l hl
      simp only [RL, and_true] at hx hy
      have hne : f.name ≠ "_" := by have := hn f (by simp); simpa using this
      have hof : f.offset = o := by simpa using ho 0 f rfl
      have na := (hE.lay _ l hl).noAgg (eqB_agg he)
      have p1 := part_scal (w := w) hE hl na (h1 0 ca (by simp))
      have p2 := part_scal (w := w) hE hl na (h2 0 cb (by simp))
      simp only [Nat.add_zero] at p1 p2
      have q := run_eqB hE hl hx hy he d
      rw [Op.eqFields, if_pos hne]
      simp only [Sem.run_bind, hof, p1, p2, q, Result.andThen_ok]
      cases c <;> simp [Op.eqFields]
    · cases he
  | f :: g :: fs, o, a :: a' :: x, b :: b' :: y, ca :: ca' :: cx, cb :: cb' :: cy, ho, hn, h1, h2, hx, hy, c, he => by
    simp only [List.map_cons, eqL] at he
    split at he
    · rename_i l hl
      split at he
      · rename_i c1 c2 e1 e2
        cases he
        simp only [RL] at hx hy
        have hne : f.name ≠ "_" := by have := hn f (by simp); simpa using this
        have hof : f.offset = o := by simpa using ho 0 f rfl
        have na := (hE.lay _ l hl).noAgg (eqB_agg e1)
        have p1 := part_scal (w := w) hE hl na (h1 0 ca (by simp))
        have p2 := part_scal (w := w) hE hl na (h2 0 cb (by simp))
        simp only [Nat.add_zero] at p1 p2
        have q := run_eqB hE hl hx.1 hy.1 e1 d
        have ih := run_eqL hE d (xs := xs) (ys := ys) (g :: fs) (o + 1) (a' :: x) (b' :: y) (ca' :: cx) (cb' :: cy)
          (fun j k hj => by have := ho (j + 1) k (by simpa using hj); omega)
          (fun k hk => hn k (List.mem_cons_of_mem _ hk))
          (fun j v hj => by have := h1 (j + 1) v (by simpa using hj); rwa [show o + (j + 1) = o + 1 + j by omega] at this)
          (fun j v hj => by have := h2 (j + 1) v (by simpa using hj); rwa [show o + (j + 1) = o + 1 + j by omega] at this)
          (by simp only [RL]; exact hx.2) (by simp only [RL]; exact hy.2) c2 (by simpa using e2)
        rw [Op.eqFields, if_pos hne]
        simp only [Sem.run_bind, hof, p1, p2, q, Result.andThen_ok]
        cases c1
        · simp [andB]
        · simpa [andB] using ih
      · cases he
    · cases he
  | [f], o, [], y, cx, cy, _, _, _, _, _, _, c, he => by simp [eqL] at he
  | [f], o, [a], [], cx, cy, _, _, _, _, _, _, c, he => by simp [eqL] at he
  | [f], o, [a], [b], [], cy, _, _, _, _, hx, _, c, he => by simp [RL] at hx
  | [f], o, [a], [b], [_], [], _, _, _, _, _, hy, c, he => by simp [RL] at hy
  | [f], o, [a], [b], _ :: _ :: _, cy, _, _, _, _, hx, _, c, he => by simp [RL] at hx
  | [f], o, [a], [b], [_], _ :: _ :: _, _, _, _, _, _, hy, c, he => by simp [RL] at hy
  | [f], o, a :: a' :: x, y, cx, cy, _, _, _, _, _, _, c, he => by
    cases y <;> simp [eqL] at he; (repeat (split at he <;> try cases he)) <;> simp_all
  | [f], o, [a], b :: b' :: y, cx, cy, _, _, _, _, _, _, c, he => by
    simp [eqL] at he; (repeat (split at he <;> try cases he)) <;> simp_all
  | f :: g :: fs, o, [], y, cx, cy, _, _, _, _, _, _, c, he => by simp [eqL] at he
  | f :: g :: fs, o, [a], y, cx, cy, _, _, _, _, _, _, c, he => by
    cases y <;> simp [eqL] at he; (repeat (split at he <;> try cases he)) <;> simp_all
  | f :: g :: fs, o, a :: a' :: x, [], cx, cy, _, _, _, _, _, _, c, he => by simp [eqL] at he
  | f :: g :: fs, o, a :: a' :: x, [b], cx, cy, _, _, _, _, _, _, c, he => by
    simp [eqL] at he; (repeat (split at he <;> try cases he)) <;> simp_all
  | f :: g :: fs, o, a :: a' :: x, b :: b' :: y, [], cy, _, _, _, _, hx, _, c, he => by simp [RL] at hx
  | f :: g :: fs, o, a :: a' :: x, b :: b' :: y, [_], cy, _, _, _, _, hx, _, c, he => by simp [RL] at hx
  | f :: g :: fs, o, a :: a' :: x, b :: b' :: y, _ :: _ :: _, [], _, _, _, _, _, hy, c, he => by simp [RL] at hy
  | f :: g :: fs, o, a :: a' :: x, b :: b' :: y, _ :: _ :: _, [_], _, _, _, _, _, hy, c, he => by simp [RL] at hy
end
end Go.E


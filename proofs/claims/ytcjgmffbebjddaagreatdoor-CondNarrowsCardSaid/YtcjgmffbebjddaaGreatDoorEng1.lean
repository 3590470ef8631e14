/- The engine, part 1: EngA, EngB, EngC, EngR, EngS, EngS2, EngO, EngO2 of this author. A pure reading of the code of the model, and its soundness. Nothing is assumed. -/
import Derived.WalkKit
import Derived.Deep.MidRow
import Derived.Deep.Draws
import Derived.Great.BuildSlice
set_option linter.all false

section
namespace Go.Eng
open Go

/-- Immutable data: scalars, flat aggregates, slices (elem type, elements). -/
inductive D where
  | v (x : Value)
  | agg (l : List D)
  | sl (e : TypeId) (l : List D)

def D.cells : D → List D
  | .agg l => l
  | x => [x]

/-- What lies in a block that is no row of cells: a string's iterator; the record of a range over a function (function, place, state, slots that are kept). -/
inductive Ob where
  | it (s : ByteArray) (pos : Nat)
  | lp (f i st : Nat) (ks : List Nat)

/-- Abstract values. -/
inductive AV where
  | d (x : D)
  | nils (e : TypeId)
  | row (a b : Nat)
  | own (e : TypeId) (l : List D)
  | ptr (a b off : Nat)
  | eS (e : TypeId) (l : List D) (i off : Nat)
  | eR (a b : Nat) (e : TypeId) (i off : Nat)
  | fn (f : Fn) (first cap : List AV)
  | agg (l : List AV)
  | tup (l : List AV)
  | ob (o : Ob) (cap : List AV)
  | yf (a b : Nat)
  /-- a variable that goes out with a closure -/
  | bx (l : List D)

inductive Key where
  | s (k : Nat)
  | x (a b : Nat)
  | r (a b : Nat)
  deriving DecidableEq

inductive Cell where
  | dead
  | gone
  | val (a : AV)
  | obj (c : List AV)
  | own (e : TypeId) (l : List D)
  | fro (e : TypeId) (l : List D)

abbrev St := Key → Cell
def St.upd (F : St) (k : Key) (c : Cell) : St := fun k' => if k' = k then c else F k'

/-- Programs over the state, with each access told. -/
inductive Pr (α : Type) where
  | ret (a : α)
  | fail
  | get (k : Key) (f : Cell → Pr α)
  | set (k : Key) (c : Cell) (p : Pr α)
  /-- a branch: at a bool, and at one that a slot holds (none: it was skipped) -/
  | ask (b : Bool) (f : Bool → Pr α)
  | askS (k : Key) (f : Option Bool → Pr α)
  /-- what must hold -/
  | chk (c : Prop) (d : Decidable c) (p : Pr α)
  /-- what must be there -/
  | lookD (o : Option D) (f : D → Pr α)
  | lookN (o : Option Nat) (f : Nat → Pr α)
  | lookB (o : Option (List UInt8)) (f : List UInt8 → Pr α)
  | lookR (o : Option (AV × List (List AV))) (f : AV × List (List AV) → Pr α)

def Pr.bind {α β : Type} : Pr α → (α → Pr β) → Pr β
  | .ret a, f => f a
  | .fail, _ => .fail
  | .get k g, f => .get k fun c => (g c).bind f
  | .set k c p, f => .set k c (p.bind f)
  | .ask b g, f => .ask b fun t => (g t).bind f
  | .askS k g, f => .askS k fun t => (g t).bind f
  | .chk c d p, f => .chk c d (p.bind f)
  | .lookD o g, f => .lookD o fun x => (g x).bind f
  | .lookN o g, f => .lookN o fun x => (g x).bind f
  | .lookB o g, f => .lookB o fun x => (g x).bind f
  | .lookR o g, f => .lookR o fun x => (g x).bind f

def Pr.run {α : Type} : Pr α → St → Option (α × St)
  | .ret a, F => some (a, F)
  | .fail, _ => none
  | .get k g, F => (g (F k)).run F
  | .set k c p, F => p.run (F.upd k c)
  | .ask b f, F => (f b).run F
  | .askS k f, F => match F k with
    | .val (.d (.v (.bool s))) => (f (some s)).run F
    | .val (.tup []) => (f none).run F
    | _ => none
  | .chk _ d p, F => match d with
    | .isTrue _ => p.run F
    | .isFalse _ => none
  | .lookD o f, F => match o with
    | some x => (f x).run F
    | none => none
  | .lookN o f, F => match o with
    | some x => (f x).run F
    | none => none
  | .lookB o f, F => match o with
    | some x => (f x).run F
    | none => none
  | .lookR o f, F => match o with
    | some x => (f x).run F
    | none => none

/-- With the instance that there is. -/
def Pr.need {α : Type} (c : Prop) [d : Decidable c] (p : Pr α) : Pr α := .chk c d p

def Pr.opt {α : Type} : Option α → Pr α
  | some a => .ret a
  | none => .fail

/-- A range over a function, as the code has it. -/
structure Yb where
  N : Nat
  ps : Array Nat
  assign : Code
  body : Code

/-- The number under which rounds of ranges over functions are evaluated. -/
def rnd : FuncId := 1000000007

/-- What is known of a type. -/
structure Ty where
  size : Nat
  bytes : Nat
  agg : Bool
  zero : Option (List AV) := none
  elem : Option TypeId := none
  arr : Option (Nat × TypeId) := none
  fields : List (Nat × TypeId) := []
  ik : Option IntKind := none
  str : Bool := false
  bl : Bool := false
  /-- a flat struct that can be compared -/
  cmp : Bool := false
  /-- the ranges over functions of the program (the same for all types) -/
  yb : FuncId → Nat → Option Yb := fun _ _ => none
  /-- the tables of the program that are only read: by the variable's number (the same for all types) -/
  gl : Nat → Option (TypeId × List D) := fun _ => none

abbrev Ev := FuncId → List AV → List (List AV) → Option (AV × List (List AV))

structure Fun where
  ntmps : Nat
  nparams : Nat
  results : List ResultVar
  body : Code

structure Env where
  ty : TypeId → Option Ty
  fn : FuncId → Option Fun
  ext : FuncId → Option (Ev → List AV → List (List AV) → Option (AV × List (List AV)))
  /-- live slots at the head of a loop: by function and the first region's number -/
  live : FuncId → Nat → List Nat
  /-- slots that are live behind it -/
  out : FuncId → Nat → List Nat
  /-- does a function hand back its own rows as such -/
  keep : FuncId → Bool

def scalar : Value → Bool
  | .bool _ | .int _ _ | .string _ | .nilFunc | .nilIface | .pointer none => true
  | _ => false

def getS (k : Nat) : Pr AV := .get (.s k) fun | .val v => .ret v | _ => .fail

def ofConst (e : Option TypeId) : Value → Option AV
  | .slice none 0 0 => e.map AV.nils
  | v => if scalar v then some (.d (.v v)) else none

def operand (e : Option TypeId) : Operand → Pr AV
  | .tmp t => getS t
  | .const v => .opt (ofConst e v)
  | .func f => .ret (.fn (.func f) [] [])
  | .global _ => .fail

def operands (E : Env) : List (Operand × TypeId) → Pr (List AV)
  | [] => .ret []
  | (o, t) :: r => (operand ((E.ty t).bind (·.elem)) o).bind fun a => (operands E r).bind fun l => .ret (a :: l)

def leaves : AV → List AV
  | .d x => x.cells.map AV.d
  | .agg l => l
  | v => [v]

def allD : List AV → Option (List D)
  | [] => some []
  | .d x :: r => (allD r).map (x :: ·)
  | _ :: _ => none

def mkAgg (l : List AV) : AV :=
  match allD l with
  | some ds => .d (.agg ds)
  | none => .agg l

/-- To data; a row of one's own is frozen. -/
def toD : AV → Pr D
  | .d x => .ret x
  | .nils e => .ret (.sl e [])
  | .row a b => .get (.r a b) fun
    | .own e l => .set (.r a b) (.fro e l) (.ret (.sl e l))
    | .fro e l => .ret (.sl e l)
    | _ => .fail
  | _ => .fail

def toDs : List AV → Pr (List D)
  | [] => .ret []
  | a :: r => (toD a).bind fun x => (toDs r).bind fun l => .ret (x :: l)

/-- The elements of a slice value, and their type. -/
def elems : AV → Pr (TypeId × List D)
  | .d (.sl e l) => .ret (e, l)
  | .nils e => .ret (e, [])
  | .row a b => .get (.r a b) fun
    | .own e l => .ret (e, l)
    | .fro e l => .ret (e, l)
    | _ => .fail
  | _ => .fail

/-- An element of data, an aggregate's parts laid open. -/
def toDd : AV → Pr D
  | .agg l => (toDs l).bind fun ds => .ret (.agg ds)
  | a => toD a

/-- A new row. -/
def newRow (a b : Nat) (e : TypeId) (l : List D) : Pr AV :=
  .get (.r a b) fun
    | .dead => .set (.r a b) (.own e l) (.ret (.row a b))
    | _ => .fail

def newVar (a b : Nat) (c : List AV) : Pr AV :=
  .get (.x a b) fun
    | .dead => .set (.x a b) (.obj c) (.ret (.ptr a b 0))
    | _ => .fail

def asNat (v : AV) : Option Nat :=
  match v with
  | .d (.v (.int _ i)) => if 0 ≤ i then some i.toNat else none
  | _ => none

def maxRow : Nat := 140737488355328

/-- Strings: equal, less. -/
def seq (a b : ByteArray) : Bool := a.data.toList == b.data.toList
def slt (a b : ByteArray) : Bool := Op.bytesLess a.data.toList b.data.toList

/-- Integers, strings, bools. -/
def bin (op : BinOp) (x y : Value) : Option Value :=
  match x, y with
  | .int k a, .int k' b =>
    match op with
    | .shl => if b < 0 then none else some (.int k (k.wrap (a * 2 ^ min b.toNat k.bits)))
    | .shr => if b < 0 then none else some (.int k (a.fdiv (2 ^ min b.toNat k.bits)))
    | op => if k = k' then
        match op with
        | .add => some (.int k (k.wrap (a + b)))
        | .sub => some (.int k (k.wrap (a - b)))
        | .mul => some (.int k (k.wrap (a * b)))
        | .quo => if b = 0 then none else some (.int k (k.wrap (a.tdiv b)))
        | .rem => if b = 0 then none else some (.int k (a.tmod b))
        | .and => some (.int k (k.wrap ((BitVec.ofInt k.bits a &&& BitVec.ofInt k.bits b).toNat)))
        | .or => some (.int k (k.wrap ((BitVec.ofInt k.bits a ||| BitVec.ofInt k.bits b).toNat)))
        | .xor => some (.int k (k.wrap ((BitVec.ofInt k.bits a ^^^ BitVec.ofInt k.bits b).toNat)))
        | .eql => some (.bool (a == b))
        | .neq => some (.bool (a != b))
        | .lss => some (.bool (a < b))
        | .leq => some (.bool (a ≤ b))
        | .gtr => some (.bool (a > b))
        | .geq => some (.bool (a ≥ b))
        | _ => none
      else none
  | .string a, .string b =>
    match op with
    | .add => if a.size + b.size ≤ 9223372036854775807 then some (.string (a ++ b)) else none
    | .eql => some (.bool (seq a b))
    | .neq => some (.bool (!(seq a b)))
    | .lss => some (.bool (slt a b))
    | .leq => some (.bool (slt a b || seq a b))
    | .gtr => some (.bool (!(slt a b || seq a b)))
    | .geq => some (.bool (!(slt a b)))
    | _ => none
  | _, _ => none

def un (op : UnOp) (x : Value) : Option Value :=
  match op, x with
  | .neg, .int k n => some (.int k (k.wrap (0 - n)))
  | .not, .bool b => some (.bool !b)
  | _, _ => none

def fillL (c : List AV) (off : Nat) (l : List AV) : Option (List AV) :=
  if off + l.length ≤ c.length then some (c.take off ++ l ++ c.drop (off + l.length)) else none

def setCell (x : D) (off : Nat) (l : List D) : Option D :=
  match x with
  | .agg c => if off + l.length ≤ c.length then some (.agg (c.take off ++ l ++ c.drop (off + l.length))) else none
  | _ => none

end Go.Eng
end

section
namespace Go.Eng
open Go

def evElem (e : TypeId) (l : List D) (i off : Nat) (T : TypeId) (t : Ty) : Pr AV :=
  .lookD l[i]? fun x =>
    if off = 0 ∧ T = e then .ret (.d x) else
    match x with
    | .agg c =>
      if off + t.size ≤ c.length then
        if t.agg then .ret (.d (.agg ((c.drop off).take t.size))) else
        match c[off]? with
        | some y => .ret (.d y)
        | none => .fail
      else .fail
    | _ => .fail

/-- Is a variable a row of cells? -/
def plainC : List AV → Bool
  | [.ob _ _] => false
  | _ => true

def evLoad (E : Env) (T : TypeId) (a : AV) : Pr AV :=
  (Pr.opt (E.ty T)).bind fun t =>
  match a with
  | .ptr x y off => .get (.x x y) fun
    | .obj c =>
      if plainC c = true then
      if off + t.size ≤ c.length then
        if t.agg then .ret (mkAgg ((c.drop off).take t.size)) else
        match c[off]? with
        | some v => .ret v
        | none => .fail
      else .fail
      else .fail
    | _ => .fail
  | .eS e l i off => evElem e l i off T t
  | .eR x y e' i off => .get (.r x y) fun
    | .own e l => if e = e' then evElem e l i off T t else .fail
    | .fro e l => if e = e' then evElem e l i off T t else .fail
    | _ => .fail
  | _ => .fail

def isTup : AV → Bool
  | .tup _ => true
  | _ => false

def isAggD : D → Bool
  | .agg _ => true
  | _ => false

def evStore (E : Env) (T : TypeId) (a x : AV) : Pr Unit :=
  (Pr.opt (E.ty T)).bind fun t =>
  if isTup x then .fail else
  match a with
  | .ptr p q off => .get (.x p q) fun
    | .obj c =>
      if plainC c = true ∧ (leaves x).length = t.size then
        (Pr.opt (fillL c off (leaves x))).bind fun c' => .set (.x p q) (.obj c') (.ret ())
      else .fail
    | _ => .fail
  | .eR p q e' i off => (toDd x).bind fun d => .get (.r p q) fun
    | .own e l =>
      .lookD l[i]? fun y =>
        if e ≠ e' then .fail else
        if off = 0 ∧ T = e then (if d.cells.length = t.size ∧ isAggD d = t.agg then .set (.r p q) (.own e (l.set i d)) (.ret ()) else .fail)
        else if d.cells.length = t.size then (Pr.opt (setCell y off d.cells)).bind fun y' => .set (.r p q) (.own e (l.set i y')) (.ret ())
        else .fail
    | _ => .fail
  | _ => .fail

def evFill (E : Env) (t : Ty) : List (Nat × Operand) → List AV → Pr (List AV)
  | [], c => .ret c
  | (i, o) :: r, c =>
    let place : Option (Nat × TypeId) := match t.arr with
      | some (_, e) => (E.ty e).map fun te => (i * te.size, e)
      | none => t.fields[i]?
    (Pr.opt place).bind fun (off, ft) =>
    (Pr.opt (E.ty ft)).bind fun tf =>
    (operand tf.elem o).bind fun x =>
    if isTup x = false ∧ (leaves x).length = tf.size then
      (Pr.opt (fillL c off (leaves x))).bind fun c' => evFill E t r c'
    else .fail

def buildable (E : Env) (t : Ty) : Bool :=
  match t.arr with
  | some p => (E.ty p.2).isSome
  | none => !t.fields.isEmpty

def evBuild (E : Env) (T : TypeId) (parts : List (Nat × Operand)) : Pr AV :=
  (Pr.opt (E.ty T)).bind fun t => (Pr.opt t.zero).bind fun z =>
  if buildable E t = true then (evFill E t parts z).bind fun c => .ret (mkAgg c) else .fail

def evParts (E : Env) (e : TypeId) (te : Ty) : Nat → List (Nat × Operand) → Pr (List D)
  | _, [] => .ret []
  | n, (i, o) :: r =>
    if i = n then
      (operand te.elem o).bind fun x => (toDd x).bind fun d =>
      if d.cells.length = te.size ∧ isAggD d = te.agg then (evParts E e te (n + 1) r).bind fun l => .ret (d :: l) else .fail
    else .fail

def sliceD (e : TypeId) (xs : List D) (l h : Nat) : Pr AV :=
  .need (l ≤ h ∧ h ≤ xs.length) (.ret (.d (.sl e ((xs.take h).drop l))))

/-- The bounds: absent ones as Go has them. -/
def lowOf : Option AV → Option Nat
  | none => some 0
  | some v => asNat v
def highOf (n : Nat) : Option AV → Option Nat
  | none => some n
  | some v => asNat v

def evSlice (E : Env) (T : TypeId) (u : Nat) (x : AV) (lo hi : Option AV) : Pr AV :=
  (Pr.opt (E.ty T)).bind fun t => Pr.lookN (lowOf lo) fun l =>
  match x with
  | .d (.v (.string s)) => Pr.lookN (highOf s.size hi) fun h =>
    if t.str = true then .need (l ≤ h ∧ h ≤ s.size) (.ret (.d (.v (.string (s.extract l h))))) else .fail
  | x => (Pr.opt t.elem).bind fun e0 => (Pr.opt (E.ty e0)).bind fun _ =>
    match x with
    | .row a b => .get (.r a b) fun
      | .own e xs =>
        if e ≠ e0 then .fail else
        match lo, hi with
        | none, some v => Pr.lookN (asNat v) fun h => .need (h ≤ xs.length) (.set (.r a b) .gone (newRow u 0 e (xs.take h)))
        | _, _ => Pr.lookN (highOf xs.length hi) fun h => .set (.r a b) (.fro e xs) (sliceD e xs l h)
      | .fro e xs => if e ≠ e0 then .fail else Pr.lookN (highOf xs.length hi) fun h => sliceD e xs l h
      | _ => .fail
    | .d (.sl e xs) => if e ≠ e0 then .fail else Pr.lookN (highOf xs.length hi) fun h => sliceD e xs l h
    | .nils e => Pr.lookN (highOf 0 hi) fun h => .need (l = 0 ∧ h = 0) (.ret (.nils e))
    | _ => .fail

def evIndexAddr (E : Env) (T : TypeId) (x i : AV) : Pr AV :=
  (Pr.opt (E.ty T)).bind fun t => Pr.lookN (asNat i) fun n =>
  match t.arr with
  | some (len, e) =>
    match x with
    | .ptr a b off => (Pr.opt (E.ty e)).bind fun te => if 1 < len then .need (n < len) (.ret (.ptr a b (off + n * te.size))) else .fail
    | .eS e' l i off => (Pr.opt (E.ty e)).bind fun _ => if e' = e ∧ i = 0 ∧ off = 0 ∧ len = l.length ∧ 1 < len then .need (n < l.length) (.ret (.eS e l n 0)) else .fail
    | _ => .fail
  | none =>
    match x with
    | .d (.sl e l) => (Pr.opt (E.ty e)).bind fun _ => if t.elem = some e then .need (n < l.length) (.ret (.eS e l n 0)) else .fail
    | .row a b => .get (.r a b) fun
      | .own e l => (Pr.opt (E.ty e)).bind fun _ => if t.elem = some e then .need (n < l.length) (.ret (.eR a b e n 0)) else .fail
      | .fro e l => (Pr.opt (E.ty e)).bind fun _ => if t.elem = some e then .need (n < l.length) (.ret (.eS e l n 0)) else .fail
      | _ => .fail
    | _ => .fail

def evFieldAddr (E : Env) (T : TypeId) (x : AV) (f : Nat) : Pr AV :=
  (Pr.opt (E.ty T)).bind fun t => (Pr.opt t.fields[f]?).bind fun (off, ft) =>
  (Pr.opt (E.ty ft)).bind fun tf =>
  if tf.size = 0 then .fail else
  match x with
  | .ptr a b o => .ret (.ptr a b (o + off))
  | .eS e l i o => .ret (.eS e l i (o + off))
  | .eR a b e i o => .ret (.eR a b e i (o + off))
  | _ => .fail

def evPart (l : List AV) (off : Nat) (tf : Ty) : Pr AV :=
  if off + tf.size ≤ l.length then
    if tf.agg then .ret (mkAgg ((l.drop off).take tf.size)) else
    match l[off]? with
    | some v => .ret v
    | none => .fail
  else .fail

def evField (E : Env) (T : TypeId) (x : AV) (f : Nat) : Pr AV :=
  (Pr.opt (E.ty T)).bind fun t => (Pr.opt t.fields[f]?).bind fun (off, ft) =>
  (Pr.opt (E.ty ft)).bind fun tf =>
  match x with
  | .d (.agg c) => evPart (c.map AV.d) off tf
  | .agg l => evPart l off tf
  | _ => .fail

def evIndex (E : Env) (T : TypeId) (x i : AV) : Pr AV :=
  Pr.lookN (asNat i) fun n =>
  match x with
  | .d (.v (.string s)) => (Pr.opt (E.ty T)).bind fun t => if t.str = true then .need (n < s.size) (.ret (.d (.v (.int .u8 (s.data.toList.getD n 0).toNat)))) else .fail
  | .d (.agg c) => (Pr.opt (E.ty T)).bind fun t =>
    match t.arr with
    | some (len, e) => (Pr.opt (E.ty e)).bind fun te => Pr.need (n < len) (evPart (c.map AV.d) (n * te.size) te)
    | none => .fail
  | _ => .fail

def byteOf : D → Option UInt8
  | .v (.int .u8 n) => if 0 ≤ n ∧ n < 256 then some (UInt8.ofNat n.toNat) else none
  | _ => none

def bytesOf : List D → Option (List UInt8)
  | [] => some []
  | x :: r => (byteOf x).bind fun b => (bytesOf r).map (b :: ·)

end Go.Eng
end

section
namespace Go.Eng
open Go

def evConvert (E : Env) (src dst : TypeId) (x : AV) : Pr AV :=
  (Pr.opt (E.ty src)).bind fun ts => (Pr.opt (E.ty dst)).bind fun td =>
  match x with
  | .d (.v (.int _ n)) =>
    match td.ik with
    | some k => .ret (.d (.v (.int k (k.wrap n))))
    | none => .fail
  | .d (.v (.string s)) => if td.str then .ret (.d (.v (.string s))) else .fail
  | x =>
    match td.str, ts.elem with
    | true, some e => (Pr.opt (E.ty e)).bind fun te =>
      if te.ik = some .u8 then (elems x).bind fun (_, l) => Pr.lookB (bytesOf l) fun b => .ret (.d (.v (.string ⟨b.toArray⟩)))
      else .fail
    | _, _ => .fail

mutual
def AV.refs : AV → List (Nat × Nat)
  | .ptr a b _ => [(a, b)]
  | .yf a b => [(a, b)]
  | .ob _ c => refsL c
  | .fn _ f c => refsL f ++ refsL c
  | .agg l => refsL l
  | .tup l => refsL l
  | _ => []
def refsL : List AV → List (Nat × Nat)
  | [] => []
  | a :: r => a.refs ++ refsL r
end

mutual
/-- Pointers to variables renamed; no row may stand in it. -/
def AV.ren (m : Nat × Nat → Option (Nat × Nat)) : AV → Option AV
  | .d x => some (.d x)
  | .nils e => some (.nils e)
  | .own e l => some (.own e l)
  | .ob o c => (renL m c).map fun c' => .ob o c'
  | .yf a b => (m (a, b)).map fun p => .yf p.1 p.2
  | .bx l => some (.bx l)
  | .ptr a b off => (m (a, b)).map fun p => .ptr p.1 p.2 off
  | .fn f x c => (renL m x).bind fun x' => (renL m c).map fun c' => .fn f x' c'
  | .agg l => (renL m l).map AV.agg
  | .tup l => (renL m l).map AV.tup
  | _ => none
def renL (m : Nat × Nat → Option (Nat × Nat)) : List AV → Option (List AV)
  | [] => some []
  | a :: r => (a.ren m).bind fun a' => (renL m r).map (a' :: ·)
end

/-- An argument: rows are lent as data. -/
def borrow1 : AV → Pr AV
  | .nils e => .ret (.d (.sl e []))
  | .row a b => .get (.r a b) fun
    | .own e l => .ret (.d (.sl e l))
    | .fro e l => .ret (.d (.sl e l))
    | _ => .fail
  | a => .ret a

def borrowL : List AV → Pr (List AV)
  | [] => .ret []
  | a :: r => (borrow1 a).bind fun x => (borrowL r).bind fun l => .ret (x :: l)

def borrow : AV → Pr AV
  | .agg l => (borrowL l).bind fun l' => .ret (mkAgg l')
  | a => borrow1 a

def borrows : List AV → Pr (List AV)
  | [] => .ret []
  | a :: r => (borrow a).bind fun x => (borrows r).bind fun l => .ret (x :: l)

def freeze1 : AV → Pr Unit
  | .row a b => .get (.r a b) fun
    | .own e l => .set (.r a b) (.fro e l) (.ret ())
    | _ => .ret ()
  | _ => .ret ()

def freezeL : List AV → Pr Unit
  | [] => .ret ()
  | a :: r => (freeze1 a).bind fun _ => freezeL r

def freezeArgs : List AV → Pr Unit
  | [] => .ret ()
  | .agg l :: r => (freezeL l).bind fun _ => freezeArgs r
  | a :: r => (freeze1 a).bind fun _ => freezeArgs r

/-- The variables that are reached. -/
def contentRefs : List (Nat × Nat) → Pr (List (Nat × Nat))
  | [] => .ret []
  | p :: r => .get (.x p.1 p.2) fun
    | .obj c => (contentRefs r).bind fun l => .ret (refsL c ++ l)
    | _ => .fail

def addNew (vs : List (Nat × Nat)) : List (Nat × Nat) → List (Nat × Nat)
  | [] => vs
  | p :: r => addNew (if p ∈ vs then vs else vs ++ [p]) r

def reach : Nat → List (Nat × Nat) → Pr (List (Nat × Nat))
  | 0, vs => .ret vs
  | n + 1, vs => (contentRefs vs).bind fun l => reach n (addNew vs l)

/-- A cell of a variable that is lent: a row goes with it. -/
def detach1 : AV → Pr AV
  | .nils e => .ret (.own e [])
  | .row a b => .get (.r a b) fun
    | .own e l => .set (.r a b) .gone (.ret (.own e l))
    | .fro e l => .ret (.d (.sl e l))
    | _ => .fail
  | a => .ret a

def detachL : List AV → Pr (List AV)
  | [] => .ret []
  | a :: r => (detach1 a).bind fun x => (detachL r).bind fun l => .ret (x :: l)

def lend : List (Nat × Nat) → Pr (List (List AV))
  | [] => .ret []
  | p :: r => .get (.x p.1 p.2) fun
    | .obj c => (detachL c).bind fun c' => .set (.x p.1 p.2) .gone ((lend r).bind fun l => .ret (c' :: l))
    | _ => .fail

/-- Rows that come back get names. -/
def attach1 (u n : Nat) : AV → Pr AV
  | .own e l => newRow u n e l
  | a => .ret a

def attachL (u : Nat) : Nat → List AV → Pr (List AV)
  | _, [] => .ret []
  | n, a :: r => (attach1 u n a).bind fun x => (attachL u (n + 1) r).bind fun l => .ret (x :: l)

def takeBack (u : Nat) : Nat → List (Nat × Nat) → List (List AV) → Pr Unit
  | _, [], [] => .ret ()
  | n, p :: r, c :: cs => (attachL u (100000 * n) c).bind fun c' => .set (.x p.1 p.2) (.obj c') (takeBack u (n + 1) r cs)
  | _, _, _ => .fail

/-- A closure's variables come in. -/
def attachB (u : Nat) : Nat → List AV → Pr (List AV)
  | _, [] => .ret []
  | n, .bx l :: r => (newVar u n (l.map .d)).bind fun x => (attachB u (n + 1) r).bind fun t => .ret (x :: t)
  | n, a :: r => (attachB u (n + 1) r).bind fun t => .ret (a :: t)

def attach2 (u n : Nat) : AV → Pr AV
  | .fn f [] c => (attachB u n c).bind fun c' => .ret (.fn f [] c')
  | .agg c => (attachL u n c).bind fun c' => .ret (.agg c')
  | a => attach1 u n a

def attachTup (u : Nat) : Nat → List AV → Pr (List AV)
  | _, [] => .ret []
  | n, a :: r => (attach2 u (100 * n) a).bind fun x => (attachTup u (n + 1) r).bind fun l => .ret (x :: l)

def attach (u : Nat) : AV → Pr AV
  | .tup l => (attachTup u 1 l).bind fun l' => .ret (.tup l')
  | a => attach2 u 100 a

def isScal : AV → Bool
  | .d (.v _) => true
  | _ => false

def allScal : AV → Bool
  | .tup l => l.all isScal
  | a => isScal a

def toIdx (vs : List (Nat × Nat)) (p : Nat × Nat) : Option (Nat × Nat) := (vs.idxOf? p).map fun i => (i, 1)
def ofIdx (vs : List (Nat × Nat)) (p : Nat × Nat) : Option (Nat × Nat) := if p.2 = 1 then vs[p.1]? else none

def nodupB : List (Nat × Nat) → Bool
  | [] => true
  | p :: r => !(r.contains p) && nodupB r

def evEnter (u : Nat) (ev : Ev) (g : FuncId) (args : List AV) : Pr AV :=
  (borrows args).bind fun bs =>
  (reach 3 (addNew [] (refsL bs))).bind fun vs =>
  if vs.isEmpty then
    (Pr.opt (renL (toIdx []) bs)).bind fun bs' => Pr.lookR (ev g bs' []) fun r =>
    if r.2.isEmpty = false then .fail else
    if allScal r.1 then .ret r.1 else
    (freezeArgs args).bind fun _ => (Pr.opt (r.1.ren fun _ => none)).bind fun res' => attach u res'
  else if nodupB vs = false then .fail else
    (freezeArgs args).bind fun _ => (lend vs).bind fun cs =>
    (Pr.opt (renL (toIdx vs) bs)).bind fun bs' => (Pr.opt (cs.mapM (renL (toIdx vs)))).bind fun cs' =>
    Pr.lookR (ev g bs' cs') fun r =>
    (Pr.opt (r.2.mapM (renL (ofIdx vs)))).bind fun out' =>
    (takeBack u 1 vs out').bind fun _ => (Pr.opt (r.1.ren fun _ => none)).bind fun res' => attach u res'

def minmax (lt : Bool) : Value → Value → Option Value
  | .int k x, .int k' y => if k = k' then some (.int k (if lt then (if y < x then y else x) else (if y > x then y else x))) else none
  | _, _ => none

def foldMM (lt : Bool) : Value → List AV → Option Value
  | v, [] => some v
  | v, .d (.v x) :: r => (minmax lt v x).bind fun y => foldMM lt y r
  | _, _ => none

def evAppend (E : Env) (u : Nat) (x y : AV) (T T' : TypeId) : Pr AV :=
  (elems y).bind fun (e, l2) => (Pr.opt (E.ty e)).bind fun te => (Pr.opt (E.ty T)).bind fun tT => (Pr.opt te.zero).bind fun z =>
  if ¬ (T = T' ∧ tT.elem = some e ∧ 0 < te.size ∧ 0 < te.bytes ∧ z.length = te.size) then .fail else
  match x with
  | .nils _ => Pr.need (l2.length * te.bytes ≤ maxRow) (newRow u 0 e l2)
  | .row a b => .get (.r a b) fun
    | .own e' l1 =>
      if e = e' then .need ((l1.length + l2.length) * te.bytes ≤ maxRow)
        (.set (.r a b) .gone (newRow u 0 e (l1 ++ l2)))
      else .fail
    | _ => .fail
  | _ => .fail

def evBuiltin (E : Env) (u : Nat) (b : Builtin) (args : List AV) (tys : List TypeId) : Pr AV :=
  match b, args, tys with
  | .len, [x], [t] =>
    match x with
    | .d (.v (.string s)) => (Pr.opt (E.ty t)).bind fun ty => if ty.str then .ret (.d (.v (.int .i64 s.size))) else .fail
    | x => (Pr.opt (E.ty t)).bind fun ty =>
      match ty.arr with
      | some (n, _) => .ret (.d (.v (.int .i64 n)))
      | none => (Pr.opt ty.elem).bind fun _ => (elems x).bind fun (_, l) => .ret (.d (.v (.int .i64 l.length)))
  | .append, [x, y], [t, t'] => evAppend E u x y t t'
  | .min, .d (.v x) :: r, _ => (Pr.opt (foldMM true x r)).bind fun v => .ret (.d (.v v))
  | .max, .d (.v x) :: r, _ => (Pr.opt (foldMM false x r)).bind fun v => .ret (.d (.v v))
  | _, _, _ => .fail

def zeroD : List AV → Option (List D)
  | [] => some []
  | .d x :: r => (zeroD r).map (x :: ·)
  | .nils e :: r => (zeroD r).map (.sl e [] :: ·)
  | _ => none

def zeroElem (te : Ty) (zd : List D) : Option D := if zd.length = te.size then (if te.agg then some (.agg zd) else match zd with | [x] => some x | _ => none) else none

def evCall (E : Env) (u : Nat) (ev : Ev) (c : Call) : Pr AV :=
  match c.callee with
  | .builtin b => (operands E (c.args.toList.zip c.argTypes.toList)).bind fun l =>
    if l.length = c.args.size then evBuiltin E u b l c.argTypes.toList else .fail
  | .value f => (operand none f).bind fun
    | .fn (.func g) first cap => (operands E (c.args.toList.zip c.argTypes.toList)).bind fun l =>
      if l.length = c.args.size then (if g = rnd then .fail else evEnter u ev g (first ++ l ++ cap)) else .fail
    | _ => .fail
  | _ => .fail

def binB (op : BinOp) (p q : Bool) : Option Value :=
  match op with
  | .eql => some (.bool (p == q))
  | .neq => some (.bool (!(p == q)))
  | _ => none

def binAV (op : BinOp) (bl : Bool) (x y : AV) : Option AV :=
  match x, y with
  | .d (.v a), .d (.v b) =>
    match bl, a, b with
    | true, .bool p, .bool q => (binB op p q).map fun v => .d (.v v)
    | _, a, b => (bin op a b).map fun v => .d (.v v)
  | _, _ => none

def evBin (op : BinOp) (bl : Bool) (x y : AV) : Pr AV :=
  match op, x, y with
  | .add, .d (.v (.string a)), .d (.v (.string b)) => .need (a.size + b.size ≤ 9223372036854775807) (.ret (.d (.v (.string (a ++ b)))))
  | .quo, .d (.v (.int k a)), .d (.v (.int k' b)) => if k = k' then .need (b ≠ 0) (.ret (.d (.v (.int k (k.wrap (a.tdiv b)))))) else .fail
  | .rem, .d (.v (.int k a)), .d (.v (.int k' b)) => if k = k' then .need (b ≠ 0) (.ret (.d (.v (.int k (a.tmod b))))) else .fail
  | .shl, .d (.v (.int k a)), .d (.v (.int _ b)) => .need (0 ≤ b) (.ret (.d (.v (.int k (k.wrap (a * 2 ^ min b.toNat k.bits))))))
  | .shr, .d (.v (.int k a)), .d (.v (.int _ b)) => .need (0 ≤ b) (.ret (.d (.v (.int k (a.fdiv (2 ^ min b.toNat k.bits))))))
  | op, x, y => Pr.opt (binAV op bl x y)

def eqV (t : Ty) : Value → Value → Option Bool
  | .int k a, .int k' b => if t.ik.isSome = true ∧ k = k' then some (a == b) else none
  | .string a, .string b => if t.str = true then some (seq a b) else none
  | .bool a, .bool b => if t.bl = true then some (a == b) else none
  | _, _ => none

/-- Flat structs, field by field. -/
def eqC (E : Env) : Nat → List (Nat × TypeId) → List D → List D → Option Bool
  | _, [], [], [] => some true
  | o, p :: fr, .v x :: r, .v y :: s =>
    if p.1 = o then
      match E.ty p.2 with
      | none => none
      | some t => match eqV t x y with
        | none => none
        | some b => match eqC E (o + 1) fr r s with
          | none => none
          | some c => some (b && c)
    else none
  | _, _, _, _ => none

def evEqAgg (E : Env) (op : BinOp) (T : TypeId) (xs ys : List D) : Option AV :=
  match E.ty T with
  | none => none
  | some t =>
    if t.cmp = true then
      match eqC E 0 t.fields xs ys with
      | none => none
      | some b => match op with
        | .eql => some (.d (.v (.bool b)))
        | .neq => some (.d (.v (.bool !b)))
        | _ => none
    else none

def evBinA (E : Env) (op : BinOp) (T : TypeId) (a b : AV) : Pr AV :=
  match a, b with
  | .d (.agg xs), .d (.agg ys) => Pr.opt (evEqAgg E op T xs ys)
  | a, b => evBin op (((E.ty T).map (·.bl)).getD false) a b

/-- An operand that may be a table. -/
def operandG (E : Env) (e : Option TypeId) : Operand → Pr AV
  | .global n => (Pr.opt ((E.ty 4).bind fun t => t.gl n)).bind fun p => if 0 < p.2.length then .ret (.eS p.1 p.2 0 0) else .fail
  | o => operand e o

def evOp (E : Env) (u : Nat) (ev : Ev) (o : Oper) : Pr AV :=
  let el : TypeId → Option TypeId := fun t => (E.ty t).bind (·.elem)
  match o.op with
  | .move x | .assign x => operand (el o.type) x
  | .pick (.tmp c) a b => .askS (.s c) fun
    | some t => if t then operand (el o.type) a else operand (el o.type) b
    | none => .fail
  | .pick c a b => (operand none c).bind fun
    | .d (.v (.bool t)) => .ask t fun t => if t then operand (el o.type) a else operand (el o.type) b
    | _ => .fail
  | .alloc T => (Pr.opt (E.ty T)).bind fun t => (Pr.opt t.zero).bind fun z => newVar u 0 z
  | .box T x => (operand (el T) x).bind fun
    | .tup _ => .fail
    | v => newVar u 0 (leaves v)
  | .build T parts => evBuild E T parts.toList
  | .buildSlice T n parts => (Pr.opt (E.ty T)).bind fun t => (Pr.opt t.elem).bind fun e => (Pr.opt (E.ty e)).bind fun te =>
    (evParts E e te 0 parts.toList).bind fun l => if l.length = n ∧ n * te.size ≤ 16777216 ∧ 0 < te.size ∧ te.zero.isSome = true then newRow u 0 e l else .fail
  | .load T a => (operand none a).bind fun v => evLoad E T v
  | .store T a x => (operand none a).bind fun v => (operand (el T) x).bind fun y => (evStore E T v y).bind fun _ => .ret (.tup [])
  | .nilCheck x => (operand none x).bind fun
    | .ptr a b off => .ret (.ptr a b off)
    | _ => .fail
  | .binOp op T x y _ => (operand (el T) x).bind fun a => (operand (el T) y).bind fun b => evBinA E op T a b
  | .unOp op _ x => (operand none x).bind fun
    | .d (.v a) => (Pr.opt (un op a)).bind fun v => .ret (.d (.v v))
    | _ => .fail
  | .convert src dst x => (operand (el src) x).bind fun a => evConvert E src dst a
  | .makeFunc fn first cap => (operands E (first.toList.map fun x => (x, 0))).bind fun a => (operands E (cap.toList.map fun x => (x, 0))).bind fun b =>
    .ret (.fn fn a b)
  | .makeSlice T l c => (Pr.opt (E.ty T)).bind fun t => (Pr.opt t.elem).bind fun e => (Pr.opt (E.ty e)).bind fun te =>
    (operand none l).bind fun n => (operand none c).bind fun m =>
    match n, m with
    | .d (.v (.int .i64 i)), .d (.v (.int .i64 j)) =>
      if 0 < te.size ∧ 0 < te.bytes then
        .need (i = j ∧ 0 ≤ i ∧ i.toNat * te.bytes ≤ maxRow) <|
        (Pr.opt te.zero).bind fun z => (Pr.opt (zeroD z)).bind fun zd =>
        (Pr.opt (zeroElem te zd)).bind fun x =>
        newRow u 0 e (List.replicate i.toNat x)
      else .fail
    | _, _ => .fail
  | .slice T x lo hi none => (operand (el T) x).bind fun v =>
    match lo, hi with
    | none, none => evSlice E T u v none none
    | some a, none => (operand none a).bind fun l => evSlice E T u v (some l) none
    | none, some b => (operand none b).bind fun h => evSlice E T u v none (some h)
    | some a, some b => (operand none a).bind fun l => (operand none b).bind fun h => evSlice E T u v (some l) (some h)
  | .fieldAddr T x f => (operand none x).bind fun v => evFieldAddr E T v f
  | .field T x f => (operand none x).bind fun v => evField E T v f
  | .indexAddr T x i => (operandG E (el T) x).bind fun v => (operand none i).bind fun n => evIndexAddr E T v n
  | .index T x i => (operand none x).bind fun v => (operand none i).bind fun n => evIndex E T v n
  | .extract x i => (operand none x).bind fun
    | .tup l => Pr.opt l[i]?
    | _ => .fail
  | .call c => evCall E u ev c
  | .range T x => (operand (el T) x).bind fun
    | .d (.v (.string s)) => if ((E.ty T).map (·.str)).getD false = true then newVar u 0 [.ob (.it s 0) []] else .fail
    | _ => .fail
  | .next x true => (operand none x).bind fun
    | .ptr a b 0 => .get (.x a b) fun
      | .obj [.ob (.it s pos) []] => .ask (decide (pos < s.size)) fun t =>
        if t = true then .set (.x a b) (.obj [.ob (.it s (pos + (Utf8.decode s pos).2)) []]) (.ret (.tup [.d (.v (.bool true)), .d (.v (.int .i64 pos)), .d (.v (.int .i32 (Utf8.decode s pos).1))]))
        else .ret (.tup [.d (.v (.bool false))])
      | _ => .fail
    | _ => .fail
  | _ => .fail

/-- A call of yield: a round. -/
def yieldPost (p q : Nat) : AV → Pr AV
  | .d (.v (.bool t)) => .ask t fun t =>
    if t = true then .get (.x p q) fun
      | .obj [.ob (.lp f i st ks) cap] => .need (st = 0) (.set (.x p q) (.obj [.ob (.lp f i 0 ks) cap]) (.ret (.d (.v (.bool true)))))
      | _ => .fail
    else .ret (.d (.v (.bool false)))
  | _ => .fail

def evYield (u : Nat) (ev : Ev) (p q : Nat) (l : List AV) : Pr AV := (evEnter u ev rnd (l ++ [.yf p q])).bind fun v => yieldPost p q v

def evCallY (E : Env) (u : Nat) (ev : Ev) (c : Call) : Pr AV :=
  match c.callee with
  | .value f => (operand none f).bind fun
    | .fn (.func g) first cap => (operands E (c.args.toList.zip c.argTypes.toList)).bind fun l =>
      if l.length = c.args.size then (if g = rnd then .fail else evEnter u ev g (first ++ l ++ cap)) else .fail
    | .yf p q => (operands E (c.args.toList.zip c.argTypes.toList)).bind fun l => if l.length = c.args.size then evYield u ev p q l else .fail
    | _ => .fail
  | _ => evCall E u ev c

def evOpY (E : Env) (u : Nat) (ev : Ev) (o : Oper) : Pr AV :=
  match o.op with
  | .call c => evCallY E u ev c
  | _ => evOp E u ev o

def putT (N : Nat) (dst : Option Nat) (v : AV) : Pr Unit :=
  match dst with
  | none => .ret ()
  | some d => if d < N then .set (.s d) (.val v) (.ret ()) else .fail

def isWanted (ops : Array Oper) (o : Oper) : Pr Bool :=
  match o.guard with
  | none => .ret true
  | some (j, want) =>
    (Pr.opt ((ops[j]?).bind (·.dst))).bind fun d => .askS (.s d) fun
    | some b => .ret (b == want)
    | none => .ret false

def evOper (E : Env) (N u : Nat) (ev : Ev) (ops : Array Oper) (o : Oper) : Pr Unit :=
  (isWanted ops o).bind fun
  | true => (evOpY E u ev o).bind fun v => putT N o.dst v
  | false => putT N o.dst (.tup [])

/-- The accesses of a run. -/
def Pr.log {α : Type} : Pr α → St → List Key × List Key
  | .ret _, _ => ([], [])
  | .fail, _ => ([], [])
  | .get k g, F => let l := (g (F k)).log F; (k :: l.1, l.2)
  | .set k c p, F => let l := p.log (F.upd k c); (l.1, k :: l.2)
  | .ask b f, F => (f b).log F
  | .askS k f, F => match F k with
    | .val (.d (.v (.bool s))) => let l := (f (some s)).log F; (k :: l.1, l.2)
    | .val (.tup []) => let l := (f none).log F; (k :: l.1, l.2)
    | _ => ([], [])
  | .chk _ _ p, F => p.log F
  | .lookD o f, F => match o with
    | some x => (f x).log F
    | none => ([], [])
  | .lookN o f, F => match o with
    | some x => (f x).log F
    | none => ([], [])
  | .lookB o f, F => match o with
    | some x => (f x).log F
    | none => ([], [])
  | .lookR o f, F => match o with
    | some x => (f x).log F
    | none => ([], [])

def evOps (E : Env) (N r : Nat) (ev : Ev) (ops : Array Oper) : List Nat → St → Option St
  | [], F => some F
  | i :: rest, F =>
    match ops[i]? with
    | none => none
    | some o => ((evOper E N (r * 1000 + i) ev ops o).run F).bind fun p => evOps E N r ev ops rest p.2

def logs (E : Env) (N r : Nat) (ev : Ev) (ops : Array Oper) : List Nat → St → List (List Key × List Key)
  | [], _ => []
  | i :: rest, F =>
    match ops[i]? with
    | none => []
    | some o =>
      let p := evOper E N (r * 1000 + i) ev ops o
      p.log F :: (match p.run F with | some q => logs E N r ev ops rest q.2 | none => [])

def meets (a b : List Key) : Bool := a.any fun k => b.contains k
def clash (a b : List Key × List Key) : Bool := meets a.2 (b.1 ++ b.2) || meets a.1 b.2

def ordered (bf : Array Nat) (ls : List (List Key × List Key)) : Bool :=
  (List.range ls.length).all fun j => (List.range j).all fun i =>
    !clash (ls.getD i ([], [])) (ls.getD j ([], [])) || (bf.getD j 0).testBit i

inductive Ex where
  | normal
  | exit (id : Nat)
  | ret

def noRange : Code → Bool
  | .rangeFunc _ _ _ _ => false
  | .seq a b => noRange a && noRange b
  | .cond _ a b => noRange a && noRange b
  | .block _ a => noRange a
  | .loop a => noRange a
  | _ => true

def exitsOf : Code → List Nat
  | .exit i => [i]
  | .seq a b => exitsOf a ++ exitsOf b
  | .cond _ a b => exitsOf a ++ exitsOf b
  | .block _ a => exitsOf a
  | .loop a => exitsOf a
  | _ => []

def exCode : Ex → Nat
  | .normal => 0
  | .ret => 2
  | .exit i => i + 3

def exIn : List Nat → Nat → Option Ex
  | [], _ => none
  | i :: r, st => if st = i + 3 then some (.exit i) else exIn r st
def exOf (ids : List Nat) (st : Nat) : Option Ex := if st = 0 then some .normal else if st = 2 then some .ret else exIn ids st

def firstRegion : Code → Nat
  | .region id _ _ => id
  | .seq a b => let n := firstRegion a; if n = 1000000 then firstRegion b else n
  | .cond _ a b => let n := firstRegion a; if n = 1000000 then firstRegion b else n
  | .block _ a => firstRegion a
  | .loop a => firstRegion a
  | _ => 1000000

/-- The number of a range over a function. -/
def rfId (assign body : Code) : Nat := let n := firstRegion assign; if n = 1000000 then firstRegion body else n

/-- A live value at a loop's head: rows under names of their own. -/
def headVal (k : Nat) : AV → St → Option (AV × List (Key × Cell))
  | .nils e, _ => some (.row k 50000, [(.r k 50000, .own e [])])
  | .row a b, F =>
    match F (.r a b) with
    | .own e l => some (.row k 50000, [(.r k 50000, .own e l)])
    | .fro e l => some (.d (.sl e l), [])
    | _ => none
  | .d x, _ => some (.d x, [])
  | .ptr a b off, _ => some (.ptr a b off, [])
  | .eS e l i off, _ => some (.eS e l i off, [])
  | .fn f x c, _ => some (.fn f x c, [])
  | _, _ => none

def headCell (k : Nat) : Nat → List AV → St → Option (List AV × List (Key × Cell))
  | _, [], _ => some ([], [])
  | j, .nils e :: r, F => (headCell k (j + 1) r F).map fun p => (.row k (60000 + j) :: p.1, (.r k (60000 + j), .own e []) :: p.2)
  | j, .row a b :: r, F =>
    match F (.r a b) with
    | .own e l => (headCell k (j + 1) r F).map fun p => (.row k (60000 + j) :: p.1, (.r k (60000 + j), .own e l) :: p.2)
    | .fro e l => (headCell k (j + 1) r F).map fun p => (.d (.sl e l) :: p.1, p.2)
    | _ => none
  | j, a :: r, F => (headCell k (j + 1) r F).map fun p => (a :: p.1, p.2)

def iter (norm : St → Option St) (body : St → Option (Ex × St)) : Nat → St → Option (Ex × St)
  | 0, _ => none
  | k + 1, F => (norm F).bind fun F0 => (body F0).bind fun
    | (.normal, F') => iter norm body k F'
    | r => some r

end Go.Eng
end

section
namespace Go.Eng
open Go

def D.leaf : D → Bool
  | .agg _ => false
  | _ => true

def D.shaped (t : Ty) (x : D) : Prop := x.cells.length = t.size ∧ (∀ y ∈ x.cells, y.leaf = true) ∧ ((∃ c, x = .agg c) ↔ t.agg = true)

/-- Data against a value: 'S' are the blocks in which it may lie. -/
inductive DR (w : World) (S : Nat → Prop) (Z : TypeId → Option Ty) : D → Value → Prop
  | v (x : Value) : scalar x = true → DR w S Z (.v x) x
  | nil (e : TypeId) (A : Option Addr) (c : Nat) : DR w S Z (.sl e []) (.slice A 0 c)
  | sl (e : TypeId) (l : List D) (b o c : Nat) (t : Ty) (u : Nat → Nat → Value) : l ≠ [] → Z e = some t → 0 < t.size → (∀ x ∈ l, D.shaped t x) → S b → l.length ≤ c → l.length ≤ maxLen →
      (∀ (j k : Nat), j < l.length → k < t.size → w.cell? ⟨b, o + (j * t.size + k), none⟩ = some (u j k)) →
      (∀ (j k : Nat) (x y : D), l[j]? = some x → x.cells[k]? = some y → DR w S Z y (u j k)) → DR w S Z (.sl e l) (.slice (some ⟨b, o, none⟩) l.length c)
  | agg (l : List D) (cs : Array Value) : l.length = cs.size → (∀ x ∈ l, D.leaf x = true) → (∀ (j : Nat) (x : D) (u : Value), l[j]? = some x → cs[j]? = some u → DR w S Z x u) → DR w S Z (.agg l) (.agg cs)

def AV.leaf : AV → Bool
  | .agg _ => false
  | .tup _ => false
  | .own _ _ => false
  | .ob _ _ => false
  | .d x => x.leaf
  | _ => true

structure Gh where
  η : Nat → Nat → Nat
  ρ : Nat → Nat → Value

inductive VR (w : World) (S : Nat → Prop) (Z : TypeId → Option Ty) (L : Key → Prop) (g : Gh) : AV → Value → Prop
  | d (x : D) (v : Value) : DR w S Z x v → VR w S Z L g (.d x) v
  | nils (e : TypeId) : VR w S Z L g (.nils e) (.slice none 0 0)
  | row (a b : Nat) (A : Option Addr) (n c : Nat) : L (.r a b) → g.ρ a b = .slice A n c → VR w S Z L g (.row a b) (.slice A n c)
  | ptr (a b off : Nat) : L (.x a b) → VR w S Z L g (.ptr a b off) (.pointer (some ⟨g.η a b, off, none⟩))
  | yf (a b : Nat) : L (.x a b) → VR w S Z L g (.yf a b) (.func (.yield (g.η a b)) #[] #[])
  | eS (e : TypeId) (l : List D) (i off b o c : Nat) (t : Ty) : DR w S Z (.sl e l) (.slice (some ⟨b, o, none⟩) l.length c) → Z e = some t → i < l.length →
      VR w S Z L g (.eS e l i off) (.pointer (some ⟨b, o + (i * t.size + off), none⟩))
  | eR (a b : Nat) (e : TypeId) (i off b0 n c : Nat) (t : Ty) : L (.r a b) → g.ρ a b = .slice (some ⟨b0, 0, none⟩) n c → Z e = some t →
      VR w S Z L g (.eR a b e i off) (.pointer (some ⟨b0, i * t.size + off, none⟩))
  | fn (f : Fn) (x c : List AV) (xs cs : Array Value) : x.length = xs.size → c.length = cs.size → (∀ (j : Nat) (a : AV) (u : Value), x[j]? = some a → xs[j]? = some u → VR w S Z L g a u) →
      (∀ (j : Nat) (a : AV) (u : Value), c[j]? = some a → cs[j]? = some u → VR w S Z L g a u) → VR w S Z L g (.fn f x c) (.func f xs cs)
  | agg (l : List AV) (cs : Array Value) : l.length = cs.size → (∀ x ∈ l, AV.leaf x = true) → (∀ (j : Nat) (a : AV) (u : Value), l[j]? = some a → cs[j]? = some u → VR w S Z L g a u) → VR w S Z L g (.agg l) (.agg cs)
  | tup (l : List AV) (cs : Array Value) : l.length = cs.size → (∀ (j : Nat) (a : AV) (u : Value), l[j]? = some a → cs[j]? = some u → VR w S Z L g a u) → VR w S Z L g (.tup l) (.tuple cs)

theorem DR.mono {w w' : World} {S S' : Nat → Prop} {Z : TypeId → Option Ty} (hS : ∀ b, S b → S' b ∧ w'.heap[b]? = w.heap[b]?) {x : D} {v : Value} (h : DR w S Z x v) : DR w' S' Z x v := by
  induction h with
  | v x hx => exact .v x hx
  | nil e A c => exact .nil e A c
  | sl e l b o c t u h1 h2 h3 h4 h5 h6 h7 h8 _ ih =>
    refine .sl e l b o c t u h1 h2 h3 h4 (hS b h5).1 h6 h7 (fun j k hj hk => ?_) ih
    rw [World.cell?_of_block (hS b h5).2]
    exact h8 j k hj hk
  | agg l cs h1 h2 _ ih => exact .agg l cs h1 h2 ih

/-- What holds of values goes on. -/
structure Ext (w : World) (S : Nat → Prop) (L : Key → Prop) (g : Gh) (w' : World) (S' : Nat → Prop) (L' : Key → Prop) (g' : Gh) : Prop where
  block : ∀ b, S b → S' b ∧ w'.heap[b]? = w.heap[b]?
  x : ∀ a b, L (.x a b) → L' (.x a b) ∧ g'.η a b = g.η a b
  r : ∀ a b, L (.r a b) → L' (.r a b) ∧ g'.ρ a b = g.ρ a b

theorem VR.mono {w w' : World} {S S' : Nat → Prop} {Z : TypeId → Option Ty} {L L' : Key → Prop} {g g' : Gh} (H : Ext w S L g w' S' L' g') {x : AV} {v : Value} (h : VR w S Z L g x v) :
    VR w' S' Z L' g' x v := by
  induction h with
  | d x v h => exact .d x v (h.mono H.block)
  | nils e => exact .nils e
  | row a b A n c h h2 => exact .row a b A n c (H.r a b h).1 ((H.r a b h).2.trans h2)
  | ptr a b off h => rw [← (H.x a b h).2]; exact .ptr a b off (H.x a b h).1
  | yf a b h => rw [← (H.x a b h).2]; exact .yf a b (H.x a b h).1
  | eS e l i off b o c t h1 h2 h3 => exact .eS e l i off b o c t (h1.mono H.block) h2 h3
  | eR a b e i off b0 n c t h1 h2 h3 => exact .eR a b e i off b0 n c t (H.r a b h1).1 ((H.r a b h1).2.trans h2) h3
  | fn f x c xs cs h1 h2 _ _ ih1 ih2 => exact .fn f x c xs cs h1 h2 ih1 ih2
  | agg l cs h1 h2 _ ih => exact .agg l cs h1 h2 ih
  | tup l cs h1 _ ih => exact .tup l cs h1 ih

/-- A row of one's own: its value, its elements. -/
def OwnR (w : World) (S : Nat → Prop) (Z : TypeId → Option Ty) (e : TypeId) (l : List D) (v : Value) : Prop :=
  (v = .slice none 0 0 ∧ l = []) ∨
  ∃ t g cap cur, Z e = some t ∧ 0 < t.size ∧ (∀ x ∈ l, D.shaped t x) ∧ v = .slice (some ⟨g, 0, none⟩) l.length cap ∧ w.heap[g]? = some (.cells cur e (0, 0)) ∧ l.length ≤ cap ∧ cap ≤ maxLen ∧
    cur.size = cap * t.size ∧ (∀ (j k : Nat) (x y : D), l[j]? = some x → x.cells[k]? = some y → ∃ u, cur[j * t.size + k]? = some u ∧ u.oneCell' = true ∧ DR w S Z y u)

theorem OwnR.mono {w w' : World} {S S' : Nat → Prop} {Z : TypeId → Option Ty} {e : TypeId} {l : List D} {v : Value} (h : OwnR w S Z e l v) (hb : ∀ b, v.ownBlock = some b → w'.heap[b]? = w.heap[b]?)
    (hS : ∀ b, S b → S' b ∧ w'.heap[b]? = w.heap[b]?) : OwnR w' S' Z e l v := by
  rcases h with h | ⟨t, g, cap, cur, h1, h2, h3, rfl, h5, h6, h7, h8, h9⟩
  · exact .inl h
  · refine .inr ⟨t, g, cap, cur, h1, h2, h3, rfl, (hb g rfl).trans h5, h6, h7, h8, fun j k x y hx hy => ?_⟩
    obtain ⟨u, a, b, c⟩ := h9 j k x y hx hy
    exact ⟨u, a, b, c.mono hS⟩

def D.val : D → Value
  | .v x => x
  | _ => undef
def tabCells (l : List D) : Array Value := ((l.flatMap D.cells).map D.val).toArray

/-- The tables lie in safe blocks. -/
def TabsOK (w : World) (S : Nat → Prop) (Z : TypeId → Option Ty) : Prop := ∀ t, Z 4 = some t → ∀ n e l, t.gl n = some (e, l) →
  DR w S Z (.sl e l) (.slice (some ⟨n, 0, none⟩) l.length l.length) ∧ S n ∧ ∃ ty fz, w.heap[n]? = some (.cells (tabCells l) ty fz)
theorem TabsOK.mono {w w' : World} {S S' : Nat → Prop} {Z : TypeId → Option Ty} (h : TabsOK w S Z) (hS : ∀ b, S b → S' b ∧ w'.heap[b]? = w.heap[b]?) : TabsOK w' S' Z := fun t ht n e l hg => by
  obtain ⟨h1, h2, ty, fz, h3⟩ := h t ht n e l hg
  exact ⟨h1.mono hS, (hS n h2).1, ty, fz, (hS n h2).2.trans h3⟩

def mutb (g : Gh) (F : St) (k : Key) (b : Nat) : Prop :=
  match k with
  | .s _ => False
  | .x p q => (∃ c, F (.x p q) = .obj c) ∧ g.η p q = b
  | .r p q => (∃ e l, F (.r p q) = .own e l) ∧ (g.ρ p q).ownBlock = some b

structure Ctx where
  Z : TypeId → Option Ty
  N : Nat
  w0 : World
  /-- old blocks that may be read -/
  Q : Nat → Prop
  /-- old blocks that are lent -/
  W : Nat → Prop
  /-- blocks that are set aside -/
  R : Nat → Prop
  /-- the blocks of what was lent, in order -/
  pin : List Nat

def Safe (C : Ctx) (g : Gh) (F : St) (w : World) (b : Nat) : Prop := b < w.heap.size ∧ (∀ k, ¬ mutb g F k b) ∧ (C.Q b ∨ C.W b ∨ C.w0.heap.size ≤ b) ∧ ¬ C.R b

def live (F : St) (k : Key) : Prop := F k ≠ .dead

/-- What the world may have become. -/
structure Keep (w0 : World) (W : Nat → Prop) (w : World) : Prop where
  os : w.os = w0.os
  tape : w.tape = w0.tape
  output : w.output = w0.output
  size : w0.heap.size ≤ w.heap.size
  block : ∀ b, b < w0.heap.size → ¬ W b → w.heap[b]? = w0.heap[b]?

abbrev VRs (C : Ctx) (g : Gh) (F : St) (w : World) : AV → Value → Prop := VR w (Safe C g F w) C.Z (live F) g
abbrev DRs (C : Ctx) (g : Gh) (F : St) (w : World) : D → Value → Prop := DR w (Safe C g F w) C.Z

/-- The state of the record of a range over a function. -/
def LpSt (st : Nat) (r : Loop) : Prop :=
  match st with
  | 0 => r.state = .ready ∧ r.pending = none
  | 1 => r.state = .busy
  | 2 => r.state = .done ∧ r.pending = some .ret
  | n + 3 => r.state = .done ∧ r.pending = some (.exit n)

/-- A block that is no row of cells. -/
def ObR (w : World) (S : Nat → Prop) (Z : TypeId → Option Ty) (L : Key → Prop) (g : Gh) (b : Nat) : Ob → List AV → Prop
  | .it s pos, cap => cap = [] ∧ w.heap[b]? = some (.stringIter s pos)
  | .lp f i st ks, cap => ∃ t yb r, Z 4 = some t ∧ t.yb f i = some yb ∧ w.heap[b]? = some (.loop r) ∧ True ∧ r.params = yb.ps ∧ r.assign = yb.assign ∧ r.body = yb.body ∧ r.tmps.size = yb.N ∧
      LpSt st r ∧ ks.length = cap.length ∧ ∀ (j k : Nat) (v : AV), ks[j]? = some k → cap[j]? = some v → k < yb.N ∧ VR w S Z L g v (r.tmps.getD k undef)

/-- A variable's block. -/
def VarR (w : World) (S : Nat → Prop) (Z : TypeId → Option Ty) (L : Key → Prop) (g : Gh) (b : Nat) (c : List AV) : Prop :=
  (∃ cs e, w.heap[b]? = some (.cells cs e (0, 0)) ∧ cs.size = c.length ∧ ∀ (j : Nat) (v : AV), c[j]? = some v → v.leaf = true ∧ ∃ u, cs[j]? = some u ∧ u.oneCell' = true ∧ VR w S Z L g v u) ∨
  ∃ o cap, c = [.ob o cap] ∧ ObR w S Z L g b o cap

theorem ObR.mono {w w' : World} {S S' : Nat → Prop} {Z : TypeId → Option Ty} {L L' : Key → Prop} {g g' : Gh} (H : Ext w S L g w' S' L' g') {b : Nat} (hb : w'.heap[b]? = w.heap[b]?) {o : Ob} {cap : List AV} (h : ObR w S Z L g b o cap) : ObR w' S' Z L' g' b o cap := by
  cases o with
  | it s pos => exact ⟨h.1, hb.trans h.2⟩
  | lp f i st ks =>
    obtain ⟨t, yb, r, h1, h2, h3, h4, h5, h6, h7, h8, h9, h10, h11⟩ := h
    exact ⟨t, yb, r, h1, h2, hb.trans h3, h4, h5, h6, h7, h8, h9, h10, fun j k v hk hv => ⟨(h11 j k v hk hv).1, (h11 j k v hk hv).2.mono H⟩⟩

theorem ObR.lt {w : World} {S : Nat → Prop} {Z : TypeId → Option Ty} {L : Key → Prop} {g : Gh} {b : Nat} {o : Ob} {cap : List AV} (h : ObR w S Z L g b o cap) : b < w.heap.size := by
  cases o with
  | it s pos => exact (Array.getElem?_eq_some_iff.1 h.2).1
  | lp f i st ks => exact (Array.getElem?_eq_some_iff.1 h.choose_spec.choose_spec.choose_spec.2.2.1).1

theorem VarR.mono {w w' : World} {S S' : Nat → Prop} {Z : TypeId → Option Ty} {L L' : Key → Prop} {g g' : Gh} (H : Ext w S L g w' S' L' g') {b : Nat} (hb : w'.heap[b]? = w.heap[b]?) {c : List AV} (h : VarR w S Z L g b c) : VarR w' S' Z L' g' b c := by
  rcases h with ⟨cs, e, h1, h2, h3⟩ | ⟨o, cap, h1, h2⟩
  · refine .inl ⟨cs, e, hb.trans h1, h2, fun j v hv => ?_⟩
    obtain ⟨h4, u, h5, h6, h7⟩ := h3 j v hv
    exact ⟨h4, u, h5, h6, h7.mono H⟩
  · exact .inr ⟨o, cap, h1, h2.mono H hb⟩

theorem VarR.lt {w : World} {S : Nat → Prop} {Z : TypeId → Option Ty} {L : Key → Prop} {g : Gh} {b : Nat} {c : List AV} (h : VarR w S Z L g b c) : b < w.heap.size := by
  rcases h with ⟨cs, e, h1, -⟩ | ⟨o, cap, -, h2⟩
  · exact (Array.getElem?_eq_some_iff.1 h1).1
  · exact h2.lt

theorem VarR.cells {w : World} {S : Nat → Prop} {Z : TypeId → Option Ty} {L : Key → Prop} {g : Gh} {b : Nat} {c : List AV} (h : VarR w S Z L g b c) (hp : plainC c = true) :
    ∃ cs e, w.heap[b]? = some (.cells cs e (0, 0)) ∧ cs.size = c.length ∧ ∀ (j : Nat) (v : AV), c[j]? = some v → v.leaf = true ∧ ∃ u, cs[j]? = some u ∧ u.oneCell' = true ∧ VR w S Z L g v u := by
  rcases h with h | ⟨o, cap, rfl, -⟩
  · exact h
  · cases hp

structure Rel (C : Ctx) (g : Gh) (F : St) (a : Act) (w : World) : Prop where
  slots : ∀ k v, F (.s k) = .val v → k < a.tmps.size ∧ VRs C g F w v (a.tmps.getD k undef)
  vars : ∀ p q c, F (.x p q) = .obj c → VarR w (Safe C g F w) C.Z (live F) g (g.η p q) c
  owns : ∀ p q e l, F (.r p q) = .own e l → OwnR w (Safe C g F w) C.Z e l (g.ρ p q)
  fros : ∀ p q e l, F (.r p q) = .fro e l → DRs C g F w (.sl e l) (g.ρ p q)
  tabs : TabsOK w (Safe C g F w) C.Z
  inj : ∀ k k' b, mutb g F k b → mutb g F k' b → k = k'
  wr : ∀ k b, mutb g F k b → (C.W b ∨ C.w0.heap.size ≤ b) ∧ ¬ C.R b
  rlt : ∀ b, C.R b → b < w.heap.size
  keep : Keep C.w0 C.W w
  defers : ∀ d ∈ a.defers, ∃ b, d = { target := .collected b, args := #[] } ∧ Safe C g F w b ∧ w.heap[b]? = some (.deferred (some [])) ∧ C.w0.heap.size ≤ b
  dnodup : a.defers.Nodup
  size : a.tmps.size = C.N
  pins : ∀ i b, C.pin[i]? = some b → i < 8 ∧ F (.x i 1) ≠ .dead ∧ g.η i 1 = b

end Go.Eng
end

section
namespace Go.Eng
open Go

section
variable {C : Ctx} {g : Gh} {F : St} {a : Act} {w : World}

theorem upd_same (F : St) (k : Key) (c : Cell) : F.upd k c k = c := by simp [St.upd]
theorem upd_other (F : St) {k k' : Key} (c : Cell) (h : k' ≠ k) : F.upd k c k' = F k' := by simp [St.upd, h]

/-- The general step. -/
theorem Rel.update (h : Rel C g F a w) {g' : Gh} {F' : St} {a' : Act} {w' : World}
    (hb : ∀ b, Safe C g F w b → w'.heap[b]? = w.heap[b]?) (hsz : w.heap.size ≤ w'.heap.size)
    (hm : ∀ k b, mutb g' F' k b → (∃ k', mutb g F k' b) ∨ w.heap.size ≤ b)
    (hl : ∀ k, F k ≠ .dead → F' k ≠ .dead)
    (hη : ∀ p q, F (.x p q) ≠ .dead → g'.η p q = g.η p q) (hρ : ∀ p q, F (.r p q) ≠ .dead → g'.ρ p q = g.ρ p q) :
    Ext w (Safe C g F w) (live F) g w' (Safe C g' F' w') (live F') g' where
  block b hs := ⟨⟨Nat.lt_of_lt_of_le hs.1 hsz, fun k hk => by
    rcases hm k b hk with ⟨k', h'⟩ | h'
    · exact hs.2.1 k' h'
    · exact absurd hs.1 (by omega), hs.2.2⟩, hb b hs⟩
  x p q hp := ⟨hl _ hp, hη p q hp⟩
  r p q hp := ⟨hl _ hp, hρ p q hp⟩

theorem mutb_lt (h : Rel C g F a w) {k : Key} {b : Nat} (hk : mutb g F k b) : b < w.heap.size := by
  cases k with
  | s k => exact hk.elim
  | x p q =>
    obtain ⟨⟨c, hc⟩, rfl⟩ := hk
    exact (h.vars p q c hc).lt
  | r p q =>
    obtain ⟨⟨e, l, hc⟩, hb⟩ := hk
    rcases h.owns p q e l hc with ⟨h1, _⟩ | ⟨t, g0, cap, cur, _, _, _, h1, h2, _⟩
    · rw [h1] at hb; simp [Value.ownBlock] at hb
    · rw [h1] at hb
      simp [Value.ownBlock] at hb
      subst hb
      exact (Array.getElem?_eq_some_iff.1 h2).1

/-- Nothing in the world or in what is owned changes but what is named. -/
theorem Rel.change (h : Rel C g F a w) {g' : Gh} {F' : St} {a' : Act} {w' : World}
    (hx : Ext w (Safe C g F w) (live F) g w' (Safe C g' F' w') (live F') g')
    (hslots : ∀ k v, F' (.s k) = .val v → (F (.s k) = .val v ∧ a'.tmps.getD k undef = a.tmps.getD k undef) ∨ (k < C.N ∧ VRs C g' F' w' v (a'.tmps.getD k undef)))
    (hvars : ∀ p q c, F' (.x p q) = .obj c → (F (.x p q) = .obj c ∧ w'.heap[g.η p q]? = w.heap[g.η p q]?) ∨
      VarR w' (Safe C g' F' w') C.Z (live F') g' (g'.η p q) c)
    (howns : ∀ p q e l, F' (.r p q) = .own e l → (F (.r p q) = .own e l ∧ ∀ b, (g.ρ p q).ownBlock = some b → w'.heap[b]? = w.heap[b]?) ∨ OwnR w' (Safe C g' F' w') C.Z e l (g'.ρ p q))
    (hfros : ∀ p q e l, F' (.r p q) = .fro e l → F (.r p q) = .fro e l ∨ DRs C g' F' w' (.sl e l) (g'.ρ p q))
    (hinj : ∀ k k' b, mutb g' F' k b → mutb g' F' k' b → k = k') (hwr : ∀ k b, mutb g' F' k b → (C.W b ∨ C.w0.heap.size ≤ b) ∧ ¬ C.R b) (hsz : w.heap.size ≤ w'.heap.size)
    (hkeep : Keep C.w0 C.W w') (hd : a'.defers = a.defers) (hs : a'.tmps.size = C.N) : Rel C g' F' a' w' where
  slots k v hv := by
    rcases hslots k v hv with ⟨h1, h2⟩ | ⟨h1, h2⟩
    · obtain ⟨h3, h4⟩ := h.slots k v h1
      exact ⟨by rw [hs, ← h.size]; exact h3, by rw [h2]; exact h4.mono hx⟩
    · exact ⟨by rw [hs]; exact h1, h2⟩
  vars p q c hc := by
    rcases hvars p q c hc with ⟨h1, h2⟩ | h1
    · rw [(hx.x p q (by rw [live, h1]; simp)).2]
      exact (h.vars p q c h1).mono hx h2
    · exact h1
  owns p q e l hc := by
    rcases howns p q e l hc with ⟨h1, h2⟩ | h1
    · rw [(hx.r p q (by rw [live, h1]; simp)).2]
      exact (h.owns p q e l h1).mono h2 hx.block
    · exact h1
  fros p q e l hc := by
    rcases hfros p q e l hc with h1 | h1
    · rw [(hx.r p q (by rw [live, h1]; simp)).2]
      exact (h.fros p q e l h1).mono hx.block
    · exact h1
  tabs := h.tabs.mono hx.block
  inj := hinj
  wr := hwr
  rlt b hb := Nat.lt_of_lt_of_le (h.rlt b hb) hsz
  keep := hkeep
  defers d hd' := by
    rw [hd] at hd'
    obtain ⟨b, h1, h2, h3⟩ := h.defers d hd'
    exact ⟨b, h1, (hx.block b h2).1, (hx.block b h2).2.trans h3.1, h3.2⟩
  dnodup := by rw [hd]; exact h.dnodup
  size := hs
  pins i b hb := by
    obtain ⟨h1, h2, h3⟩ := h.pins i b hb
    obtain ⟨k1, k2⟩ := hx.x i 1 h2
    exact ⟨h1, k1, k2.trans h3⟩

theorem put_getD (a : Act) (d k : Nat) (x : Value) : (a.put (some d) x).tmps.getD k undef = if k = d ∧ d < a.tmps.size then x else a.tmps.getD k undef := by
  simp only [Act.put, Array.getD_eq_getD_getElem?, Array.getElem?_setIfInBounds]
  by_cases h : d = k
  · subst h
    by_cases h2 : d < a.tmps.size
    · simp [h2]
    · simp [h2]
  · have : ¬ k = d := fun e => h e.symm
    simp [h, this]

theorem put_size (a : Act) (d : Option Nat) (x : Value) : (a.put d x).tmps.size = a.tmps.size := by
  cases d <;> simp [Act.put]
theorem put_defers (a : Act) (d : Option Nat) (x : Value) : (a.put d x).defers = a.defers := by cases d <;> rfl

theorem mutb_slot {d : Nat} {c : Cell} {k : Key} {b : Nat} : mutb g (F.upd (.s d) c) k b ↔ mutb g F k b := by
  cases k <;> simp [mutb, St.upd]

/-- A slot is written. -/
theorem Rel.put (h : Rel C g F a w) {d : Nat} (hd : d < C.N) {v : AV} {x : Value} (hv : VRs C g F w v x) : Rel C g (F.upd (.s d) (.val v)) (a.put (some d) x) w := by
  have hx : Ext w (Safe C g F w) (live F) g w (Safe C g (F.upd (.s d) (.val v)) w) (live (F.upd (.s d) (.val v))) g :=
    h.update (a' := a) (fun _ _ => rfl) (Nat.le_refl _) (fun k b hk => .inl ⟨k, mutb_slot.1 hk⟩) (fun k hk => by
      unfold St.upd; split <;> simp_all) (fun _ _ _ => rfl) (fun _ _ _ => rfl)
  refine h.change hx (fun k u hu => ?_) (fun p q c hc => .inl ⟨by simpa [St.upd] using hc, rfl⟩) (fun p q e l hc => .inl ⟨by simpa [St.upd] using hc, fun _ _ => rfl⟩)
    (fun p q e l hc => .inl (by simpa [St.upd] using hc)) (fun k k' b h1 h2 => h.inj k k' b (mutb_slot.1 h1) (mutb_slot.1 h2)) (fun k b hk => h.wr k b (mutb_slot.1 hk)) (Nat.le_refl _) h.keep
    (put_defers _ _ _) (by rw [put_size]; exact h.size)
  by_cases e : k = d
  · subst e
    rw [upd_same] at hu
    obtain rfl : v = u := by simpa using hu
    refine .inr ⟨hd, ?_⟩
    rw [put_getD, if_pos ⟨rfl, by rw [h.size]; exact hd⟩]
    exact hv.mono hx
  · refine .inl ⟨by rwa [upd_other _ _ (by simpa using e)] at hu, ?_⟩
    rw [put_getD, if_neg (fun hh => e hh.1)]

/-- The slots may be forgotten, and the temporaries be whatever they are. -/
theorem Rel.weaken (h : Rel C g F a w) {F' : St} (hs : ∀ k, F' (.s k) = F (.s k) ∨ F' (.s k) = .dead) (hx : ∀ p q, F' (.x p q) = F (.x p q)) (hr : ∀ p q, F' (.r p q) = F (.r p q)) : Rel C g F' a w := by
  have hm : ∀ k b, mutb g F' k b ↔ mutb g F k b := fun k b => by cases k <;> simp [mutb, hx, hr]
  have hS : Safe C g F' w = Safe C g F w := by funext b; simp [Safe, hm]
  have conv : ∀ {v x}, VRs C g F w v x → VRs C g F' w v x := fun hv => hv.mono
    { block := fun b hb => ⟨by rw [hS]; exact hb, rfl⟩, x := fun p q hp => ⟨by simpa [live, hx] using hp, rfl⟩, r := fun p q hp => ⟨by simpa [live, hr] using hp, rfl⟩ }
  exact {
    slots := fun k v hv => by
      rcases hs k with e | e <;> rw [e] at hv
      · exact ⟨(h.slots k v hv).1, conv (h.slots k v hv).2⟩
      · cases hv
    vars := fun p q c hc => by
      rw [hx] at hc
      exact (h.vars p q c hc).mono ⟨fun b hb => ⟨by rw [hS]; exact hb, rfl⟩, fun p q hp => ⟨by simpa [live, hx] using hp, rfl⟩, fun p q hp => ⟨by simpa [live, hr] using hp, rfl⟩⟩ rfl
    owns := fun p q e l hc => by rw [hr] at hc; rw [hS]; exact h.owns p q e l hc
    fros := fun p q e l hc => by rw [hr] at hc; unfold DRs; rw [hS]; exact h.fros p q e l hc
    tabs := by rw [hS]; exact h.tabs
    pins := fun i b hb => by rw [hx]; exact h.pins i b hb
    inj := fun k k' b h1 h2 => h.inj k k' b ((hm _ _).1 h1) ((hm _ _).1 h2)
    wr := fun k b h1 => h.wr k b ((hm _ _).1 h1)
    rlt := h.rlt
    keep := h.keep
    defers := fun d hd => by
      obtain ⟨b, h1, h2, h3⟩ := h.defers d hd
      exact ⟨b, h1, by rw [hS]; exact h2, h3⟩
    dnodup := h.dnodup
    size := h.size }

theorem Keep.grown {w0 w w' : World} {W : Nat → Prop} (h : Keep w0 W w) {row : Option Nat} (hg : w.grownBy w' row) (hr : ∀ b, row = some b → W b ∨ w0.heap.size ≤ b) : Keep w0 W w' where
  os := hg.os.trans h.os
  tape := hg.tape.trans h.tape
  output := hg.output.trans h.output
  size := Nat.le_trans h.size hg.size
  block b hb hW := (hg.block b (Nat.lt_of_lt_of_le hb h.size) (fun e => by rcases hr b e.symm with h' | h'; exact hW h'; omega)).trans (h.block b hb hW)

/-- The world grows; nothing of it is named. -/
theorem Rel.grown (h : Rel C g F a w) {w' : World} (hg : w.grownBy w' none) : Rel C g F a w' := by
  have hall : ∀ b, b < w.heap.size → w'.heap[b]? = w.heap[b]? := fun b hb => hg.block b hb (by simp)
  have hx := h.update (g' := g) (F' := F) (a' := a) (w' := w') (fun b hb => hall b hb.1) hg.size (fun k b hk => .inl ⟨k, hk⟩) (fun _ hk => hk) (fun _ _ _ => rfl) (fun _ _ _ => rfl)
  refine h.change hx (fun k v hv => .inl ⟨hv, rfl⟩) (fun p q c hc => .inl ⟨hc, hall _ (mutb_lt h (k := .x p q) ⟨⟨c, hc⟩, rfl⟩)⟩) (fun p q e l hc => .inl ⟨hc, fun b hb => hall _ (mutb_lt h (k := .r p q) ⟨⟨e, l, hc⟩, hb⟩)⟩)
    (fun p q e l hc => .inl hc) h.inj h.wr hg.size (h.keep.grown hg (by simp)) rfl h.size

def Gh.setη (g : Gh) (p q b : Nat) : Gh := { g with η := fun p' q' => if p' = p ∧ q' = q then b else g.η p' q' }
def Gh.setρ (g : Gh) (p q : Nat) (v : Value) : Gh := { g with ρ := fun p' q' => if p' = p ∧ q' = q then v else g.ρ p' q' }

/-- A new block. -/
theorem Rel.newOb (h : Rel C g F a w) {p q : Nat} (hn : F (.x p q) = .dead) {c : List AV} {ob : Obj} (hc : VarR (w.alloc ob) (Safe C g F w) C.Z (live F) g w.heap.size c) :
    Rel C (g.setη p q w.heap.size) (F.upd (.x p q) (.obj c)) a (w.alloc ob) ∧
    Ext w (Safe C g F w) (live F) g (w.alloc ob) (Safe C (g.setη p q w.heap.size) (F.upd (.x p q) (.obj c)) (w.alloc ob)) (live (F.upd (.x p q) (.obj c))) (g.setη p q w.heap.size) := by
  have hg := World.grownBy_alloc w ob none
  have hall : ∀ b, b < w.heap.size → (w.alloc ob).heap[b]? = w.heap[b]? := fun b hb => hg.block b hb (by simp)
  have hm : ∀ k b, mutb (g.setη p q w.heap.size) (F.upd (.x p q) (.obj c)) k b → (mutb g F k b ∧ k ≠ .x p q) ∨ (k = .x p q ∧ b = w.heap.size) := by
    intro k b hk
    cases k with
    | s k => exact hk.elim
    | x p' q' =>
      obtain ⟨⟨c', hc'⟩, hb⟩ := hk
      by_cases e1 : p' = p ∧ q' = q
      · obtain ⟨rfl, rfl⟩ := e1
        exact .inr ⟨rfl, by simpa [Gh.setη] using hb.symm⟩
      · have hne : Key.x p' q' ≠ .x p q := by simpa using e1
        rw [upd_other _ _ hne] at hc'
        exact .inl ⟨⟨⟨c', hc'⟩, by simpa [Gh.setη, e1] using hb⟩, hne⟩
    | r p' q' =>
      obtain ⟨⟨e', l', hc'⟩, hb⟩ := hk
      rw [upd_other _ _ (by simp)] at hc'
      exact .inl ⟨⟨⟨e', l', hc'⟩, hb⟩, by simp⟩
  have hx := h.update (g' := g.setη p q w.heap.size) (F' := F.upd (.x p q) (.obj c)) (a' := a) (fun b hb => hall b hb.1) hg.size
    (fun k b hk => by rcases hm k b hk with h1 | h1; exact .inl ⟨k, h1.1⟩; exact .inr (by omega))
    (fun k hk => by unfold St.upd; split <;> simp_all)
    (fun p' q' hp => by
      by_cases e1 : p' = p ∧ q' = q
      · obtain ⟨rfl, rfl⟩ := e1; exact absurd hn hp
      · simp [Gh.setη, e1])
    (fun _ _ _ => rfl)
  refine ⟨h.change hx (fun k v hv => .inl ⟨by rwa [upd_other _ _ (by simp)] at hv, rfl⟩) (fun p' q' c' hc' => ?_) (fun p' q' e' l hc' => .inl ⟨by rwa [upd_other _ _ (by simp)] at hc', fun b hb => ?_⟩)
    (fun p' q' e' l hc' => .inl (by rwa [upd_other _ _ (by simp)] at hc')) (fun k k' b h1 h2 => ?_) (fun k b hk => ?_) hg.size (h.keep.grown hg (by simp)) rfl h.size, hx⟩
  · by_cases e1 : p' = p ∧ q' = q
    · obtain ⟨rfl, rfl⟩ := e1
      rw [upd_same] at hc'
      obtain rfl : c = c' := by simpa using hc'
      refine .inr ?_
      rw [show (g.setη p' q' w.heap.size).η p' q' = w.heap.size by simp [Gh.setη]]
      exact hc.mono ⟨fun b hb => ⟨(hx.block b hb).1, rfl⟩, hx.x, hx.r⟩ rfl
    · rw [upd_other _ _ (by simpa using e1)] at hc'
      exact .inl ⟨hc', hall _ (mutb_lt h (k := .x p' q') ⟨⟨c', hc'⟩, rfl⟩)⟩
  · rw [upd_other _ _ (by simp)] at hc'
    exact hall _ (mutb_lt h (k := .r p' q') ⟨⟨e', l, hc'⟩, hb⟩)
  · rcases hm k b h1 with ⟨a1, n1⟩ | ⟨a1, b1⟩ <;> rcases hm k' b h2 with ⟨a2, n2⟩ | ⟨a2, b2⟩
    · exact h.inj k k' b a1 a2
    · exact absurd (mutb_lt h a1) (by omega)
    · exact absurd (mutb_lt h a2) (by omega)
    · rw [a1, a2]
  · rcases hm k b hk with ⟨h1, _⟩ | ⟨_, h1⟩
    · exact h.wr k b h1
    · exact ⟨.inr (by have := h.keep.size; omega), fun hR => by have := h.rlt b hR; omega⟩

/-- A new variable. -/
theorem Rel.newVar (h : Rel C g F a w) {p q : Nat} (hn : F (.x p q) = .dead) {c : List AV} {cs : Array Value} {e : TypeId} (hs : cs.size = c.length)
    (hc : ∀ (j : Nat) (v : AV), c[j]? = some v → v.leaf = true ∧ ∃ u, cs[j]? = some u ∧ u.oneCell' = true ∧ VRs C g F w v u) :
    Rel C (g.setη p q w.heap.size) (F.upd (.x p q) (.obj c)) a (w.alloc (.cells cs e)) ∧
    Ext w (Safe C g F w) (live F) g (w.alloc (.cells cs e)) (Safe C (g.setη p q w.heap.size) (F.upd (.x p q) (.obj c)) (w.alloc (.cells cs e))) (live (F.upd (.x p q) (.obj c))) (g.setη p q w.heap.size) := by
  refine h.newOb hn (.inl ⟨cs, e, heap_alloc_new w _, hs, fun j v hv => ?_⟩)
  obtain ⟨h1, u, h2, h3, h4⟩ := hc j v hv
  exact ⟨h1, u, h2, h3, h4.mono ⟨fun b hb => ⟨hb, (World.grownBy_alloc w (.cells cs e) none).block b hb.1 (by simp)⟩, fun _ _ hp => ⟨hp, rfl⟩, fun _ _ hp => ⟨hp, rfl⟩⟩⟩

theorem mutb_setρ {p q : Nat} {v : Value} {e : TypeId} {l : List D} {k : Key} {b : Nat} (hk : mutb (g.setρ p q v) (F.upd (.r p q) (.own e l)) k b) :
    (mutb g F k b ∧ k ≠ .r p q) ∨ (k = .r p q ∧ v.ownBlock = some b) := by
  cases k with
  | s k => exact hk.elim
  | x p' q' =>
    obtain ⟨⟨c', hc'⟩, hb⟩ := hk
    rw [upd_other _ _ (by simp)] at hc'
    exact .inl ⟨⟨⟨c', hc'⟩, hb⟩, by simp⟩
  | r p' q' =>
    obtain ⟨⟨e', l', hc'⟩, hb⟩ := hk
    by_cases e1 : p' = p ∧ q' = q
    · obtain ⟨rfl, rfl⟩ := e1
      exact .inr ⟨rfl, by simpa [Gh.setρ] using hb⟩
    · have hne : Key.r p' q' ≠ .r p q := by simpa using e1
      rw [upd_other _ _ hne] at hc'
      exact .inl ⟨⟨⟨e', l', hc'⟩, by simpa [Gh.setρ, e1] using hb⟩, hne⟩

/-- A new row of one's own, in new memory. -/
theorem Rel.newRow (h : Rel C g F a w) {p q : Nat} (hn : F (.r p q) = .dead) {e : TypeId} {l : List D} {v : Value} {w' : World} (hg : w.grownBy w' none)
    (hown : OwnR w' (Safe C g F w) C.Z e l v) (hblk : ∀ b, v.ownBlock = some b → w.heap.size ≤ b) :
    Rel C (g.setρ p q v) (F.upd (.r p q) (.own e l)) a w' ∧
    Ext w (Safe C g F w) (live F) g w' (Safe C (g.setρ p q v) (F.upd (.r p q) (.own e l)) w') (live (F.upd (.r p q) (.own e l))) (g.setρ p q v) := by
  have hall : ∀ b, b < w.heap.size → w'.heap[b]? = w.heap[b]? := fun b hb => hg.block b hb (by simp)
  have hx := h.update (g' := g.setρ p q v) (F' := F.upd (.r p q) (.own e l)) (a' := a) (w' := w') (fun b hb => hall b hb.1) hg.size
    (fun k b hk => by rcases mutb_setρ hk with h1 | h1; exact .inl ⟨k, h1.1⟩; exact .inr (hblk b h1.2))
    (fun k hk => by unfold St.upd; split <;> simp_all) (fun _ _ _ => rfl)
    (fun p' q' hp => by
      by_cases e1 : p' = p ∧ q' = q
      · obtain ⟨rfl, rfl⟩ := e1; exact absurd hn hp
      · simp [Gh.setρ, e1])
  refine ⟨h.change hx (fun k v hv => .inl ⟨by rwa [upd_other _ _ (by simp)] at hv, rfl⟩) (fun p' q' c' hc' => ?_) (fun p' q' e' l' hc' => ?_)
    (fun p' q' e' l' hc' => .inl ?_) (fun k k' b h1 h2 => ?_) (fun k b hk => ?_) hg.size (h.keep.grown hg (by simp)) rfl h.size, hx⟩
  · rw [upd_other _ _ (by simp)] at hc'
    exact .inl ⟨hc', hall _ (mutb_lt h (k := .x p' q') ⟨⟨c', hc'⟩, rfl⟩)⟩
  · by_cases e1 : p' = p ∧ q' = q
    · obtain ⟨rfl, rfl⟩ := e1
      rw [upd_same] at hc'
      obtain ⟨rfl, rfl⟩ : e = e' ∧ l = l' := by simpa using hc'
      refine .inr ?_
      have hv : (g.setρ p' q' v).ρ p' q' = v := by simp [Gh.setρ]
      rw [hv]
      exact hown.mono (fun _ _ => rfl) (fun b hb => ⟨(hx.block b hb).1, rfl⟩)
    · rw [upd_other _ _ (by simpa using e1)] at hc'
      exact .inl ⟨hc', fun b hb => hall _ (mutb_lt h (k := .r p' q') ⟨⟨e', l', hc'⟩, hb⟩)⟩
  · by_cases e1 : p' = p ∧ q' = q
    · obtain ⟨rfl, rfl⟩ := e1
      rw [upd_same] at hc'; cases hc'
    · rwa [upd_other _ _ (by simpa using e1)] at hc'
  · rcases mutb_setρ h1 with ⟨a1, n1⟩ | ⟨a1, b1⟩ <;> rcases mutb_setρ h2 with ⟨a2, n2⟩ | ⟨a2, b2⟩
    · exact h.inj k k' b a1 a2
    · exact absurd (mutb_lt h a1) (by have := hblk b b2; omega)
    · exact absurd (mutb_lt h a2) (by have := hblk b b1; omega)
    · rw [a1, a2]
  · rcases mutb_setρ hk with ⟨h1, _⟩ | ⟨_, h1⟩
    · exact h.wr k b h1
    · exact ⟨.inr (by have := h.keep.size; have := hblk b h1; omega), fun hR => by have := h.rlt b hR; have := hblk b h1; omega⟩
end

end Go.Eng
end

section
namespace Go.Eng
open Go

section
variable {C : Ctx} {g : Gh} {F : St} {a : Act} {w : World}

/-- A block is written. -/
theorem Rel.setOb (h : Rel C g F a w) {p q : Nat} {c : List AV} (ho : F (.x p q) = .obj c) {c' : List AV} {w' : World}
    (hg : w.grownBy w' (some (g.η p q))) (hc : VarR w' (Safe C g F w) C.Z (live F) g (g.η p q) c') :
    Rel C g (F.upd (.x p q) (.obj c')) a w' ∧ Ext w (Safe C g F w) (live F) g w' (Safe C g (F.upd (.x p q) (.obj c')) w') (live (F.upd (.x p q) (.obj c'))) g := by
  have hmu : mutb g F (.x p q) (g.η p q) := ⟨⟨c, ho⟩, rfl⟩
  have hm : ∀ k b, mutb g (F.upd (.x p q) (.obj c')) k b ↔ mutb g F k b := by
    intro k b
    cases k with
    | s k => exact Iff.rfl
    | x p' q' =>
      by_cases e1 : p' = p ∧ q' = q
      · obtain ⟨rfl, rfl⟩ := e1
        simp [mutb, St.upd, ho]
      · simp [mutb, St.upd, e1]
    | r p' q' => simp [mutb, St.upd]
  have hall : ∀ b, b < w.heap.size → b ≠ g.η p q → w'.heap[b]? = w.heap[b]? := fun b hb hne => hg.block b hb (by simpa using hne)
  have hx := h.update (g' := g) (F' := F.upd (.x p q) (.obj c')) (a' := a) (w' := w') (fun b hb => hall b hb.1 (fun e1 => hb.2.1 _ (e1 ▸ hmu))) hg.size
    (fun k b hk => .inl ⟨k, (hm k b).1 hk⟩) (fun k hk => by unfold St.upd; split <;> simp_all) (fun _ _ _ => rfl) (fun _ _ _ => rfl)
  refine ⟨h.change hx (fun k v hv => .inl ⟨by rwa [upd_other _ _ (by simp)] at hv, rfl⟩) (fun p' q' c1 hc1 => ?_) (fun p' q' e' l hc1 => .inl ⟨by rwa [upd_other _ _ (by simp)] at hc1, fun b hb => ?_⟩)
    (fun p' q' e' l hc1 => .inl (by rwa [upd_other _ _ (by simp)] at hc1)) (fun k k' b h1 h2 => h.inj k k' b ((hm _ _).1 h1) ((hm _ _).1 h2)) (fun k b hk => h.wr k b ((hm _ _).1 hk)) hg.size
    (h.keep.grown hg (fun b hb => by obtain rfl : g.η p q = b := by simpa using hb
                                     exact (h.wr _ _ hmu).1)) rfl h.size, hx⟩
  · by_cases e1 : p' = p ∧ q' = q
    · obtain ⟨rfl, rfl⟩ := e1
      rw [upd_same] at hc1
      obtain rfl : c' = c1 := by simpa using hc1
      exact .inr (hc.mono ⟨fun b hb => ⟨(hx.block b hb).1, rfl⟩, hx.x, hx.r⟩ rfl)
    · rw [upd_other _ _ (by simpa using e1)] at hc1
      have hmu' : mutb g F (.x p' q') (g.η p' q') := ⟨⟨c1, hc1⟩, rfl⟩
      refine .inl ⟨hc1, hall _ (mutb_lt h hmu') (fun e2 => e1 ?_)⟩
      have := h.inj _ _ _ hmu' (e2 ▸ hmu)
      simpa using this
  · rw [upd_other _ _ (by simp)] at hc1
    have hmu' : mutb g F (.r p' q') b := ⟨⟨e', l, hc1⟩, hb⟩
    exact hall _ (mutb_lt h hmu') (fun e2 => by have := h.inj _ _ _ hmu' (e2 ▸ hmu); cases this)

/-- A variable's cells are written. -/
theorem Rel.setVar (h : Rel C g F a w) {p q : Nat} {c : List AV} (ho : F (.x p q) = .obj c) {c' : List AV} {cs' : Array Value} {e : TypeId} {w' : World}
    (hg : w.grownBy w' (some (g.η p q))) (hh : w'.heap[g.η p q]? = some (.cells cs' e (0, 0))) (hs : cs'.size = c'.length)
    (hc : ∀ (j : Nat) (v : AV), c'[j]? = some v → v.leaf = true ∧ ∃ u, cs'[j]? = some u ∧ u.oneCell' = true ∧ VRs C g F w v u) :
    Rel C g (F.upd (.x p q) (.obj c')) a w' ∧ Ext w (Safe C g F w) (live F) g w' (Safe C g (F.upd (.x p q) (.obj c')) w') (live (F.upd (.x p q) (.obj c'))) g := by
  have hmu : mutb g F (.x p q) (g.η p q) := ⟨⟨c, ho⟩, rfl⟩
  refine h.setOb ho hg (.inl ⟨cs', e, hh, hs, fun j v hv => ?_⟩)
  obtain ⟨h1, u, h2, h3, h4⟩ := hc j v hv
  exact ⟨h1, u, h2, h3, h4.mono ⟨fun b hb => ⟨hb, hg.block b hb.1 (by simp; exact fun e1 => hb.2.1 _ (e1 ▸ hmu))⟩, fun _ _ hp => ⟨hp, rfl⟩, fun _ _ hp => ⟨hp, rfl⟩⟩⟩

/-- An own row's elements are written. -/
theorem Rel.setRow (h : Rel C g F a w) {p q : Nat} {e0 e : TypeId} {l l' : List D} (ho : F (.r p q) = .own e0 l) {w' : World}
    (hg : w.grownBy w' (g.ρ p q).ownBlock) (hown : OwnR w' (Safe C g F w) C.Z e l' (g.ρ p q)) :
    Rel C g (F.upd (.r p q) (.own e l')) a w' ∧ Ext w (Safe C g F w) (live F) g w' (Safe C g (F.upd (.r p q) (.own e l')) w') (live (F.upd (.r p q) (.own e l'))) g := by
  have hm : ∀ k b, mutb g (F.upd (.r p q) (.own e l')) k b ↔ mutb g F k b := by
    intro k b
    cases k with
    | s k => exact Iff.rfl
    | x p' q' => simp [mutb, St.upd]
    | r p' q' =>
      by_cases e1 : p' = p ∧ q' = q
      · obtain ⟨rfl, rfl⟩ := e1
        simp [mutb, St.upd, ho]
      · simp [mutb, St.upd, e1]
  have hmu : ∀ b, (g.ρ p q).ownBlock = some b → mutb g F (.r p q) b := fun b hb => ⟨⟨e0, l, ho⟩, hb⟩
  have hall : ∀ b, b < w.heap.size → (g.ρ p q).ownBlock ≠ some b → w'.heap[b]? = w.heap[b]? := fun b hb hne => hg.block b hb (fun e1 => hne e1.symm)
  have hx := h.update (g' := g) (F' := F.upd (.r p q) (.own e l')) (a' := a) (w' := w') (fun b hb => hall b hb.1 (fun e1 => hb.2.1 _ (hmu b e1))) hg.size
    (fun k b hk => .inl ⟨k, (hm k b).1 hk⟩) (fun k hk => by unfold St.upd; split <;> simp_all) (fun _ _ _ => rfl) (fun _ _ _ => rfl)
  refine ⟨h.change hx (fun k v hv => .inl ⟨by rwa [upd_other _ _ (by simp)] at hv, rfl⟩) (fun p' q' c1 hc1 => ?_) (fun p' q' e' l1 hc1 => ?_)
    (fun p' q' e' l1 hc1 => .inl ?_) (fun k k' b h1 h2 => h.inj k k' b ((hm _ _).1 h1) ((hm _ _).1 h2)) (fun k b hk => h.wr k b ((hm _ _).1 hk)) hg.size
    (h.keep.grown hg (fun b hb => (h.wr _ _ (hmu b hb)).1)) rfl h.size, hx⟩
  · rw [upd_other _ _ (by simp)] at hc1
    have hmu' : mutb g F (.x p' q') (g.η p' q') := ⟨⟨c1, hc1⟩, rfl⟩
    exact .inl ⟨hc1, hall _ (mutb_lt h hmu') (fun e2 => by have := h.inj _ _ _ hmu' (hmu _ e2); cases this)⟩
  · by_cases e1 : p' = p ∧ q' = q
    · obtain ⟨rfl, rfl⟩ := e1
      rw [upd_same] at hc1
      obtain ⟨rfl, rfl⟩ : e = e' ∧ l' = l1 := by simpa using hc1
      exact .inr (hown.mono (fun _ _ => rfl) (fun b hb => ⟨(hx.block b hb).1, rfl⟩))
    · rw [upd_other _ _ (by simpa using e1)] at hc1
      refine .inl ⟨hc1, fun b hb => ?_⟩
      have hmu' : mutb g F (.r p' q') b := ⟨⟨e', l1, hc1⟩, hb⟩
      exact hall _ (mutb_lt h hmu') (fun e2 => by have := h.inj _ _ _ hmu' (hmu _ e2); exact e1 (by simpa using this))
  · by_cases e1 : p' = p ∧ q' = q
    · obtain ⟨rfl, rfl⟩ := e1
      rw [upd_same] at hc1; cases hc1
    · rwa [upd_other _ _ (by simpa using e1)] at hc1

/-- An own row, read as data under whatever holds it. -/
theorem OwnR.data {S : Nat → Prop} {Z : TypeId → Option Ty} {e : TypeId} {l : List D} {v : Value} (h : OwnR w S Z e l v) {S' : Nat → Prop} (hS : ∀ b, S b → S' b) (hv : ∀ b, v.ownBlock = some b → S' b) : DR w S' Z (.sl e l) v := by
  rcases h with ⟨rfl, rfl⟩ | ⟨t, b, cap, cur, h1, h2, h3, rfl, h5, h6, h7, h8, h9⟩
  · exact .nil e none 0
  · by_cases hl : l = []
    · subst hl; exact .nil e _ cap
    · refine .sl e l b 0 cap t (fun j k => cur.getD (j * t.size + k) undef) hl h1 h2 h3 (hv b rfl) h6 (Nat.le_trans h6 h7) (fun j k hj hk => ?_) (fun j k x y hx hy => ?_)
      · have hlt : j * t.size + k < cur.size := by
          rw [h8]
          have : (j + 1) * t.size ≤ cap * t.size := Nat.mul_le_mul_right _ (by omega)
          rw [Nat.add_mul] at this; omega
        rw [cell_of_row w b _ cur e (0, 0) h5]
        simp [hlt]
      · obtain ⟨u, a1, a2, a3⟩ := h9 j k x y hx hy
        simp only [Array.getD_eq_getD_getElem?, a1, Option.getD_some]
        exact a3.mono (fun b hb => ⟨hS b hb, rfl⟩)

/-- A row of one's own is frozen. -/
theorem Rel.freeze (h : Rel C g F a w) {p q : Nat} {e : TypeId} {l : List D} (ho : F (.r p q) = .own e l) :
    Rel C g (F.upd (.r p q) (.fro e l)) a w ∧ Ext w (Safe C g F w) (live F) g w (Safe C g (F.upd (.r p q) (.fro e l)) w) (live (F.upd (.r p q) (.fro e l))) g ∧
    DRs C g (F.upd (.r p q) (.fro e l)) w (.sl e l) (g.ρ p q) := by
  have hm : ∀ k b, mutb g (F.upd (.r p q) (.fro e l)) k b ↔ mutb g F k b ∧ k ≠ .r p q := by
    intro k b
    cases k with
    | s k => simp [mutb]
    | x p' q' => simp [mutb, St.upd]
    | r p' q' =>
      by_cases e1 : p' = p ∧ q' = q
      · obtain ⟨rfl, rfl⟩ := e1
        simp [mutb, St.upd, ho]
      · have : Key.r p' q' ≠ .r p q := by simpa using e1
        simp [mutb, St.upd, this]
  have hx := h.update (g' := g) (F' := F.upd (.r p q) (.fro e l)) (a' := a) (w' := w) (fun b hb => rfl) (Nat.le_refl _)
    (fun k b hk => .inl ⟨k, ((hm k b).1 hk).1⟩) (fun k hk => by unfold St.upd; split <;> simp_all) (fun _ _ _ => rfl) (fun _ _ _ => rfl)
  have hd : DRs C g (F.upd (.r p q) (.fro e l)) w (.sl e l) (g.ρ p q) := by
    refine (h.owns p q e l ho).data (fun b hb => (hx.block b hb).1) (fun b hb => ?_)
    have hmu : mutb g F (.r p q) b := ⟨⟨e, l, ho⟩, hb⟩
    refine ⟨mutb_lt h hmu, fun k hk => ?_, ?_, (h.wr _ _ hmu).2⟩
    · obtain ⟨h1, h2⟩ := (hm k b).1 hk
      exact h2 (h.inj k _ b h1 hmu)
    · rcases (h.wr _ _ hmu).1 with h1 | h1
      · exact .inr (.inl h1)
      · exact .inr (.inr h1)
  refine ⟨h.change hx (fun k v hv => .inl ⟨by rwa [upd_other _ _ (by simp)] at hv, rfl⟩) (fun p' q' c1 hc1 => .inl ⟨by rwa [upd_other _ _ (by simp)] at hc1, rfl⟩) (fun p' q' e' l1 hc1 => .inl ⟨?_, fun _ _ => rfl⟩)
    (fun p' q' e' l1 hc1 => ?_) (fun k k' b h1 h2 => h.inj k k' b ((hm _ _).1 h1).1 ((hm _ _).1 h2).1) (fun k b hk => h.wr k b ((hm _ _).1 hk).1) (Nat.le_refl _)
    h.keep rfl h.size, hx, hd⟩
  · by_cases e1 : p' = p ∧ q' = q
    · obtain ⟨rfl, rfl⟩ := e1
      rw [upd_same] at hc1; cases hc1
    · rwa [upd_other _ _ (by simpa using e1)] at hc1
  · by_cases e1 : p' = p ∧ q' = q
    · obtain ⟨rfl, rfl⟩ := e1
      rw [upd_same] at hc1
      obtain ⟨rfl, rfl⟩ : e = e' ∧ l = l1 := by simpa using hc1
      exact .inr hd
    · rw [upd_other _ _ (by simpa using e1)] at hc1
      exact .inl hc1

/-- A row is handed on to a new one, in its memory or in new memory. -/
theorem Rel.moveRow (h : Rel C g F a w) {p q u n : Nat} {e0 e : TypeId} {l0 l : List D} (ho : F (.r p q) = .own e0 l0) (hn : F (.r u n) = .dead) {v : Value} {w' : World}
    (hg : w.grownBy w' (g.ρ p q).ownBlock) (hown : OwnR w' (Safe C g F w) C.Z e l v) (hblk : ∀ b, v.ownBlock = some b → (g.ρ p q).ownBlock = some b ∨ w.heap.size ≤ b) :
    Rel C (g.setρ u n v) ((F.upd (.r p q) .gone).upd (.r u n) (.own e l)) a w' ∧
    Ext w (Safe C g F w) (live F) g w' (Safe C (g.setρ u n v) ((F.upd (.r p q) .gone).upd (.r u n) (.own e l)) w') (live ((F.upd (.r p q) .gone).upd (.r u n) (.own e l))) (g.setρ u n v) := by
  have hne : Key.r p q ≠ .r u n := fun e1 => by rw [e1, hn] at ho; cases ho
  have hmu : ∀ b, (g.ρ p q).ownBlock = some b → mutb g F (.r p q) b := fun b hb => ⟨⟨e0, l0, ho⟩, hb⟩
  have hm : ∀ k b, mutb (g.setρ u n v) ((F.upd (.r p q) .gone).upd (.r u n) (.own e l)) k b → (mutb g F k b ∧ k ≠ .r p q ∧ k ≠ .r u n) ∨ (k = .r u n ∧ v.ownBlock = some b) := by
    intro k b hk
    rcases mutb_setρ hk with ⟨h1, h2⟩ | h1
    · refine .inl ?_
      cases k with
      | s k => exact h1.elim
      | x p' q' => exact ⟨by simpa [mutb, St.upd] using h1, by simp, h2⟩
      | r p' q' =>
        by_cases e1 : p' = p ∧ q' = q
        · obtain ⟨rfl, rfl⟩ := e1
          obtain ⟨⟨e', l', hc'⟩, _⟩ := h1
          rw [upd_same] at hc'; cases hc'
        · have h3 : Key.r p' q' ≠ .r p q := by simpa using e1
          obtain ⟨⟨e', l', hc'⟩, hb⟩ := h1
          rw [upd_other _ _ h3] at hc'
          exact ⟨⟨⟨e', l', hc'⟩, hb⟩, h3, h2⟩
    · exact .inr h1
  have hall : ∀ b, b < w.heap.size → (g.ρ p q).ownBlock ≠ some b → w'.heap[b]? = w.heap[b]? := fun b hb hne => hg.block b hb (fun e1 => hne e1.symm)
  have hx := h.update (g' := g.setρ u n v) (F' := (F.upd (.r p q) .gone).upd (.r u n) (.own e l)) (a' := a) (w' := w')
    (fun b hb => hall b hb.1 (fun e1 => hb.2.1 _ (hmu b e1))) hg.size
    (fun k b hk => by
      rcases hm k b hk with h1 | h1
      · exact .inl ⟨k, h1.1⟩
      · rcases hblk b h1.2 with h2 | h2
        · exact .inl ⟨_, hmu b h2⟩
        · exact .inr h2)
    (fun k hk => by
      unfold St.upd; split
      · simp
      · split
        · simp
        · exact hk) (fun _ _ _ => rfl)
    (fun p' q' hp => by
      by_cases e1 : p' = u ∧ q' = n
      · obtain ⟨rfl, rfl⟩ := e1; exact absurd hn hp
      · simp [Gh.setρ, e1])
  have hF : ∀ p' q', ¬ (p' = u ∧ q' = n) → ¬ (p' = p ∧ q' = q) → ((F.upd (.r p q) .gone).upd (.r u n) (.own e l)) (.r p' q') = F (.r p' q') := fun p' q' e1 e2 => by
    rw [upd_other _ _ (by simpa using e1), upd_other _ _ (by simpa using e2)]
  refine ⟨h.change hx (fun k v hv => .inl ⟨by rwa [upd_other _ _ (by simp), upd_other _ _ (by simp)] at hv, rfl⟩) (fun p' q' c' hc' => ?_) (fun p' q' e' l' hc' => ?_)
    (fun p' q' e' l' hc' => .inl ?_) (fun k k' b h1 h2 => ?_) (fun k b hk => ?_) hg.size (h.keep.grown hg (fun b hb => (h.wr _ _ (hmu b hb)).1)) rfl h.size, hx⟩
  · rw [upd_other _ _ (by simp), upd_other _ _ (by simp)] at hc'
    have hmu' : mutb g F (.x p' q') (g.η p' q') := ⟨⟨c', hc'⟩, rfl⟩
    exact .inl ⟨hc', hall _ (mutb_lt h hmu') (fun e2 => by have := h.inj _ _ _ hmu' (hmu _ e2); cases this)⟩
  · by_cases e1 : p' = u ∧ q' = n
    · obtain ⟨rfl, rfl⟩ := e1
      rw [upd_same] at hc'
      obtain ⟨rfl, rfl⟩ : e = e' ∧ l = l' := by simpa using hc'
      refine .inr ?_
      rw [show (g.setρ p' q' v).ρ p' q' = v by simp [Gh.setρ]]
      exact hown.mono (fun _ _ => rfl) (fun b hb => ⟨(hx.block b hb).1, rfl⟩)
    · by_cases e2 : p' = p ∧ q' = q
      · obtain ⟨rfl, rfl⟩ := e2
        rw [upd_other _ _ (by simpa using e1), upd_same] at hc'; cases hc'
      · rw [hF _ _ e1 e2] at hc'
        refine .inl ⟨hc', fun b hb => ?_⟩
        have hmu' : mutb g F (.r p' q') b := ⟨⟨e', l', hc'⟩, hb⟩
        exact hall _ (mutb_lt h hmu') (fun e3 => by have := h.inj _ _ _ hmu' (hmu _ e3); exact e2 (by simpa using this))
  · by_cases e1 : p' = u ∧ q' = n
    · obtain ⟨rfl, rfl⟩ := e1
      rw [upd_same] at hc'; cases hc'
    · by_cases e2 : p' = p ∧ q' = q
      · obtain ⟨rfl, rfl⟩ := e2
        rw [upd_other _ _ (by simpa using e1), upd_same] at hc'; cases hc'
      · rwa [hF _ _ e1 e2] at hc'
  · rcases hm k b h1 with ⟨a1, n1, m1⟩ | ⟨a1, b1⟩ <;> rcases hm k' b h2 with ⟨a2, n2, m2⟩ | ⟨a2, b2⟩
    · exact h.inj k k' b a1 a2
    · rcases hblk b b2 with h3 | h3
      · exact absurd (h.inj _ _ _ a1 (hmu b h3)) n1
      · exact absurd (mutb_lt h a1) (by omega)
    · rcases hblk b b1 with h3 | h3
      · exact absurd (h.inj _ _ _ a2 (hmu b h3)) n2
      · exact absurd (mutb_lt h a2) (by omega)
    · rw [a1, a2]
  · rcases hm k b hk with ⟨h1, _⟩ | ⟨_, h1⟩
    · exact h.wr k b h1
    · rcases hblk b h1 with h3 | h3
      · exact h.wr _ _ (hmu b h3)
      · exact ⟨.inr (by have := h.keep.size; omega), fun hR => by have := h.rlt b hR; omega⟩
end

end Go.Eng
end

section
namespace Go.Eng
open Go

theorem Pr.run_bind {α β : Type} (p : Pr α) (f : α → Pr β) (F : St) : (p.bind f).run F = (p.run F).bind fun r => (f r.1).run r.2 := by
  induction p generalizing F with
  | ret a => rfl
  | fail => rfl
  | get k g ih => exact ih (F k) F
  | set k c p ih => exact ih (F.upd k c)
  | ask b g ih => exact ih b F
  | askS k g ih =>
    simp only [Pr.bind, Pr.run]
    split
    · exact ih _ F
    · exact ih _ F
    · rfl
  | chk c d p ih => cases d with
    | isTrue _ => exact ih F
    | isFalse _ => rfl
  | lookD o g ih => cases o with
    | none => rfl
    | some x => exact ih x F
  | lookN o g ih => cases o with
    | none => rfl
    | some x => exact ih x F
  | lookB o g ih => cases o with
    | none => rfl
    | some x => exact ih x F
  | lookR o g ih => cases o with
    | none => rfl
    | some x => exact ih x F

theorem Pr.askS_some {α : Type} {k : Key} {f : Option Bool → Pr α} {F : St} {r : α × St} (h : (Pr.askS k f).run F = some r) :
    (∃ s, F k = .val (.d (.v (.bool s))) ∧ (f (some s)).run F = some r) ∨ (F k = .val (.tup []) ∧ (f none).run F = some r) := by
  simp only [Pr.run] at h
  split at h
  · exact .inl ⟨_, ‹_›, h⟩
  · exact .inr ⟨‹_›, h⟩
  · cases h

theorem Pr.need_some {α : Type} {c : Prop} [d : Decidable c] {p : Pr α} {F : St} {r : α × St} (h : (Pr.need c p).run F = some r) : c ∧ p.run F = some r := by
  unfold Pr.need at h
  simp only [Pr.run] at h
  split at h
  · exact ⟨‹_›, h⟩
  · cases h
theorem Pr.lookD_some {α : Type} {o : Option D} {f : D → Pr α} {F : St} {r : α × St} (h : (Pr.lookD o f).run F = some r) : ∃ x, o = some x ∧ (f x).run F = some r := by
  cases o with
  | none => cases h
  | some x => exact ⟨x, rfl, h⟩
theorem Pr.lookN_some {α : Type} {o : Option Nat} {f : Nat → Pr α} {F : St} {r : α × St} (h : (Pr.lookN o f).run F = some r) : ∃ x, o = some x ∧ (f x).run F = some r := by
  cases o with
  | none => cases h
  | some x => exact ⟨x, rfl, h⟩
theorem Pr.lookB_some {α : Type} {o : Option (List UInt8)} {f : List UInt8 → Pr α} {F : St} {r : α × St} (h : (Pr.lookB o f).run F = some r) : ∃ x, o = some x ∧ (f x).run F = some r := by
  cases o with
  | none => cases h
  | some x => exact ⟨x, rfl, h⟩
theorem Pr.lookR_some {α : Type} {o : Option (AV × List (List AV))} {f : AV × List (List AV) → Pr α} {F : St} {r : α × St} (h : (Pr.lookR o f).run F = some r) : ∃ x, o = some x ∧ (f x).run F = some r := by
  cases o with
  | none => cases h
  | some x => exact ⟨x, rfl, h⟩

theorem Pr.bind_some {α β : Type} {p : Pr α} {f : α → Pr β} {F : St} {r : β × St} (h : (p.bind f).run F = some r) : ∃ x F1, p.run F = some (x, F1) ∧ (f x).run F1 = some r := by
  rw [Pr.run_bind] at h
  cases hp : p.run F with
  | none => rw [hp] at h; cases h
  | some q => obtain ⟨x, F1⟩ := q; rw [hp] at h; exact ⟨x, F1, rfl, h⟩

theorem Pr.opt_some {α : Type} {o : Option α} {F F' : St} {x : α} (h : (Pr.opt o).run F = some (x, F')) : o = some x ∧ F' = F := by
  cases o with
  | none => cases h
  | some y => simp only [Pr.opt, Pr.run, Option.some.injEq, Prod.mk.injEq] at h; obtain ⟨rfl, rfl⟩ := h; exact ⟨rfl, rfl⟩

def zeroOK : List AV → List Value → Prop
  | [], [] => True
  | .d (.v x) :: r, y :: s => scalar x = true ∧ y = x ∧ zeroOK r s
  | .nils _ :: r, y :: s => y = .slice none 0 0 ∧ zeroOK r s
  | _, _ => False

structure TyFacts (P : Program) (Z : TypeId → Option Ty) (T : TypeId) (t : Ty) : Prop where
  info : ∃ i, P.info? T = some i ∧ i.size = t.size ∧ i.bytes = t.bytes ∧ (∀ zl, t.zero = some zl → ∃ z, i.zero = some z ∧ zeroOK zl z.cells.toList)
  agg : ∃ d, P.underlying T = some d ∧ d.isRow = t.agg
  elem : ∀ e, t.elem = some e → P.underlying T = some (.slice e)
  arr : ∀ n e, t.arr = some (n, e) → P.underlying T = some (.array n e) ∧ 0 < n
  fields : t.fields ≠ [] → ∃ fs, P.underlying T = some (.struct fs) ∧ t.fields = fs.toList.map (fun f => (f.offset, f.type)) ∧ ∀ p ∈ t.fields, (Z p.2).isSome = true
  ik : ∀ k, t.ik = some k → P.underlying T = some (.int k)
  str : t.str = true → P.underlying T = some .string
  leaf : t.agg = false → t.size = 1
  bl : t.bl = true → P.underlying T = some .bool
  cmp : t.cmp = true → P.stoodInHeld T = false ∧ P.eqGuardType P.depth T = false ∧ ∃ fs, P.underlying T = some (.struct fs) ∧ t.fields = fs.toList.map (fun f => (f.offset, f.type)) ∧ ∀ f ∈ fs.toList, f.name ≠ "_"

section
variable {P : Program} {E : Env} {C : Ctx} {g : Gh} {F : St} {a : Act} {w : World}

theorem getS_some {k : Nat} {v : AV} {F' : St} (h : (getS k).run F = some (v, F')) : F (.s k) = .val v ∧ F' = F := by
  unfold getS at h
  simp only [Pr.run] at h
  split at h
  · simp only [Pr.run, Option.some.injEq, Prod.mk.injEq] at h
    rename_i hc
    exact ⟨by rw [hc, h.1], h.2.symm⟩
  · cases h

theorem operand_sound (h : Rel C g F a w) {e : Option TypeId} {o : Operand} {v : AV} {F' : St} (hr : (operand e o).run F = some (v, F')) : F' = F ∧ VRs C g F w v (a.eval o) := by
  cases o with
  | tmp t =>
    obtain ⟨h1, h2⟩ := getS_some hr
    exact ⟨h2, (h.slots t v h1).2⟩
  | const c =>
    obtain ⟨h1, h2⟩ := Pr.opt_some hr
    refine ⟨h2, ?_⟩
    simp only [Act.eval]
    unfold ofConst at h1
    split at h1
    · cases e with
      | none => cases h1
      | some e => simp at h1; subst h1; exact .nils e
    · split at h1
      · rename_i hs; simp at h1; subst h1; exact .d _ _ (.v _ hs)
      · cases h1
  | global n => cases hr
  | func f =>
    simp only [operand, Pr.run, Option.some.injEq, Prod.mk.injEq] at hr
    obtain ⟨rfl, rfl⟩ := hr
    exact ⟨rfl, .fn _ [] [] #[] #[] rfl rfl (fun j a u hj => by simp at hj) (fun j a u hj => by simp at hj)⟩

theorem operands_sound (h : Rel C g F a w) (l : List (Operand × TypeId)) : ∀ {vs : List AV} {F' : St}, (operands E l).run F = some (vs, F') →
    F' = F ∧ vs.length = l.length ∧ ∀ (j : Nat) (v : AV) (o : Operand × TypeId), vs[j]? = some v → l[j]? = some o → VRs C g F w v (a.eval o.1) := by
  induction l with
  | nil =>
    intro vs F' hr
    simp only [operands, Pr.run, Option.some.injEq, Prod.mk.injEq] at hr
    obtain ⟨rfl, rfl⟩ := hr
    exact ⟨rfl, rfl, fun j v o hj => by simp at hj⟩
  | cons p r ih =>
    obtain ⟨o, t⟩ := p
    intro vs F' hr
    unfold operands at hr
    obtain ⟨x, F1, h1, h2⟩ := Pr.bind_some hr
    obtain ⟨rfl, hx⟩ := operand_sound h h1
    obtain ⟨l, F2, h3, h4⟩ := Pr.bind_some h2
    obtain ⟨rfl, hl, hv⟩ := ih h3
    simp only [Pr.run, Option.some.injEq, Prod.mk.injEq] at h4
    obtain ⟨rfl, rfl⟩ := h4
    refine ⟨rfl, by simp [hl], fun j v o' hj ho => ?_⟩
    cases j with
    | zero => simp at hj ho; subst hj; subst ho; exact hx
    | succ j => simp at hj ho; exact hv j v o' hj ho

theorem DR.scalar_of {w : World} {S : Nat → Prop} {Z : TypeId → Option Ty} {x y : Value} (h : DR w S Z (.v x) y) : y = x ∧ scalar x = true := by cases h with | v _ hx => exact ⟨rfl, hx⟩

theorem VR.scalar_of {w : World} {S : Nat → Prop} {Z : TypeId → Option Ty} {L : Key → Prop} {x y : Value} (h : VR w S Z L g (.d (.v x)) y) : y = x ∧ scalar x = true := by
  cases h with | d _ _ h => exact h.scalar_of

theorem wp_value {o : Oper} {next : Act → World → Prop} {Q : Exit → Act → World → Prop} {x : Value} {w' : World} (h : (execOp a.eval o).run P w = .ok (.value x) w') (hn : next (a.put o.dst x) w') :
    o.wp P a w next Q := by
  unfold Oper.wp; rw [h]; exact hn

theorem wp_skip' {o : Oper} {next : Act → World → Prop} {Q : Exit → Act → World → Prop} {w' : World} (h : (execOp a.eval o).run P w = .ok .skip w') (hn : next (a.put o.dst undef) w') :
    o.wp P a w next Q := by
  unfold Oper.wp; rw [h]; exact hn

theorem DR.oneCell {w : World} {S : Nat → Prop} {Z : TypeId → Option Ty} {y : D} {u : Value} (h : DR w S Z y u) (hl : y.leaf = true) : u.oneCell' = true := by
  cases h with
  | v x hx => cases u <;> first | rfl | simp [scalar] at hx
  | nil => rfl
  | sl => rfl
  | agg => simp [D.leaf] at hl

theorem VR.oneCell {w : World} {S : Nat → Prop} {Z : TypeId → Option Ty} {L : Key → Prop} {v : AV} {x : Value} (h : VR w S Z L g v x) (hl : v.leaf = true) : x.oneCell' = true := by
  cases h with
  | d y v hd => exact hd.oneCell hl
  | agg => simp [AV.leaf] at hl
  | tup => simp [AV.leaf] at hl
  | _ => rfl

/-- The cells of a value. -/
theorem leaves_rel {w : World} {S : Nat → Prop} {Z : TypeId → Option Ty} {L : Key → Prop} {v : AV} {x : Value} (h : VR w S Z L g v x) (ht : isTup v = false) :
    x.cells.size = (leaves v).length ∧ ∀ (j : Nat) (y : AV), (leaves v)[j]? = some y → y.leaf = true ∧ ∃ u, x.cells[j]? = some u ∧ u.oneCell' = true ∧ VR w S Z L g y u := by
  have one : ∀ {v : AV} {x : Value}, VR w S Z L g v x → v.leaf = true → x.oneCell' = true → leaves v = [v] → x.cells = #[x] →
      x.cells.size = (leaves v).length ∧ ∀ (j : Nat) (y : AV), (leaves v)[j]? = some y → y.leaf = true ∧ ∃ u, x.cells[j]? = some u ∧ u.oneCell' = true ∧ VR w S Z L g y u := by
    intro v x hv hl ho he hc
    rw [he, hc]
    refine ⟨rfl, fun j y hy => ?_⟩
    cases j with
    | zero => simp at hy; subst hy; exact ⟨hl, x, by simp, ho, hv⟩
    | succ j => simp at hy
  have hD1 : ∀ {y : D} {u : Value}, DR w S Z y u → y.leaf = true → u.oneCell' = true := DR.oneCell
  cases h with
  | d y v hd =>
    cases hd with
    | v x hx => exact one (.d _ _ (.v x hx)) rfl (hD1 (.v (w := w) (S := S) (Z := Z) x hx) rfl) (by simp [leaves, D.cells]) (by cases x <;> first | rfl | simp [scalar] at hx)
    | nil e A c => exact one (.d _ _ (.nil e A c)) rfl rfl (by simp [leaves, D.cells]) rfl
    | sl e l b o c t u h1 h2 h3 h4 h5 h6 h7 h8 h9 => exact one (.d _ _ (.sl e l b o c t u h1 h2 h3 h4 h5 h6 h7 h8 h9)) rfl rfl (by simp [leaves, D.cells]) rfl
    | agg l cs h1 h2 h3 =>
      refine ⟨by simp [leaves, D.cells, Value.cells, h1], fun j y hy => ?_⟩
      simp only [leaves, D.cells, List.getElem?_map, Option.map_eq_some_iff] at hy
      obtain ⟨z, hz, rfl⟩ := hy
      have hj : j < cs.size := by rw [← h1]; exact (List.getElem?_eq_some_iff.1 hz).1
      have hu : cs[j]? = some cs[j] := Array.getElem?_eq_getElem hj
      have hlf := h2 z (List.mem_of_getElem? hz)
      exact ⟨hlf, cs[j], by simpa [Value.cells] using hu, hD1 (h3 j z _ hz hu) hlf, .d _ _ (h3 j z _ hz hu)⟩
  | nils e => exact one (.nils e) rfl rfl rfl rfl
  | row a b A n c hl h2 => exact one (.row a b A n c hl h2) rfl rfl rfl rfl
  | ptr a b off hl => exact one (.ptr a b off hl) rfl rfl rfl rfl
  | yf a b hl => exact one (.yf a b hl) rfl rfl rfl rfl
  | eS e l i off b o c t h1 h2 h3 => exact one (.eS e l i off b o c t h1 h2 h3) rfl rfl rfl rfl
  | eR a b e i off b0 n c t h1 h2 h3 => exact one (.eR a b e i off b0 n c t h1 h2 h3) rfl rfl rfl rfl
  | fn f x c xs cs h1 h2 h3 h4 => exact one (.fn f x c xs cs h1 h2 h3 h4) rfl rfl rfl rfl
  | agg l cs h1 h2 h3 =>
    refine ⟨by simp [leaves, Value.cells, h1], fun j y hy => ?_⟩
    simp only [leaves] at hy
    have hj : j < cs.size := by rw [← h1]; exact (List.getElem?_eq_some_iff.1 hy).1
    have hu : cs[j]? = some cs[j] := Array.getElem?_eq_getElem hj
    have hlf := h2 y (List.mem_of_getElem? hy)
    exact ⟨hlf, cs[j], by simpa [Value.cells] using hu, (h3 j y _ hy hu).oneCell hlf, h3 j y _ hy hu⟩
  | tup l cs h1 h2 => simp [isTup] at ht
end
end Go.Eng
end

section
namespace Go.Eng
open Go

section
variable {P : Program} {E : Env} {C : Ctx} {g : Gh} {F : St} {a : Act} {w : World}

theorem VR.data {w : World} {S : Nat → Prop} {Z : TypeId → Option Ty} {L : Key → Prop} {x : D} {u : Value} (h : VR w S Z L g (.d x) u) : DR w S Z x u := by cases h with | d _ _ h => exact h

theorem allD_spec : ∀ {l : List AV} {ds : List D}, allD l = some ds → l = ds.map AV.d := by
  intro l
  induction l with
  | nil => intro ds h; simp [allD] at h; subst h; rfl
  | cons v r ih =>
    intro ds h
    cases v with
    | d x =>
      simp only [allD, Option.map_eq_some_iff] at h
      obtain ⟨ds', h1, rfl⟩ := h
      rw [ih h1]; rfl
    | _ => simp [allD] at h

theorem mkAgg_rel {w : World} {S : Nat → Prop} {Z : TypeId → Option Ty} {L : Key → Prop} {l : List AV} {cs : Array Value} (h1 : l.length = cs.size) (h2 : ∀ x ∈ l, AV.leaf x = true)
    (h3 : ∀ (j : Nat) (v : AV) (u : Value), l[j]? = some v → cs[j]? = some u → VR w S Z L g v u) : VR w S Z L g (mkAgg l) (.agg cs) := by
  unfold mkAgg
  split
  · rename_i ds hd
    have := allD_spec hd
    subst this
    refine .d _ _ (.agg ds cs (by simpa using h1) (fun x hx => h2 (.d x) (List.mem_map.2 ⟨x, hx, rfl⟩)) (fun j x u hj hu => (h3 j (.d x) u (by simp [hj]) hu).data))
  · exact .agg l cs h1 h2 h3

theorem run_loadVar_leaf (w : World) (T : TypeId) (b o : Nat) (d : TypeDesc) (v : Value) (hu : P.underlying T = some d) (hd : d.isRow = false) (hc : w.cell? ⟨b, o, none⟩ = some v) :
    (Instr.loadAt T (.pointer (some ⟨b, o, none⟩))).run P w = .ok v w := by
  have hagg : (isAgg T).run P w = .ok false w := by
    unfold isAgg
    rw [Sem.run_bind, run_underlying hu w]
    cases d <;> simp_all
  simp [Instr.loadAt, Instr.sureAddr, loadVar, Sem.run_bind, hagg, hc]

/-- A row of cells, from an offset on. -/
theorem rangeAt_of_block {w : World} {b : Nat} {cs : Array Value} {e : TypeId} (h : w.heap[b]? = some (.cells cs e (0, 0))) (off n : Nat) : w.rangeAt b off ((cs.toList.drop off).take n) := by
  intro j v hv
  rw [cell_of_row w b _ cs e (0, 0) h]
  simp only [List.getElem?_take, List.getElem?_drop] at hv
  split at hv
  · simpa using hv
  · cases hv

variable (hZ : ∀ T t, E.ty T = some t → TyFacts P E.ty T t) (hC : C.Z = E.ty)

theorem evElem_sound (hZ : ∀ T t, E.ty T = some t → TyFacts P E.ty T t) {w : World} {S : Nat → Prop} {L : Key → Prop} {e : TypeId} {l : List D} {i off T : Nat} {t te : Ty} {v : AV} {F F' : St} {b o : Nat}
    (hT : E.ty T = some t) (he : E.ty e = some te) (hs : ∀ x ∈ l, D.shaped te x)
    (hcell : ∀ (j k : Nat) (x y : D), l[j]? = some x → x.cells[k]? = some y → ∃ u, w.cell? ⟨b, o + (j * te.size + k), none⟩ = some u ∧ DR w S E.ty y u)
    (hr : (evElem e l i off T t).run F = some (v, F')) :
    F' = F ∧ ∃ x, (Instr.loadAt T (.pointer (some ⟨b, o + (i * te.size + off), none⟩))).run P w = .ok x w ∧ VR w S E.ty L g v x := by
  have tf := hZ T t hT
  obtain ⟨d, hu, hd⟩ := tf.agg
  obtain ⟨inf, hi, hsz, -⟩ := tf.info
  unfold evElem at hr
  replace hr := Pr.lookD_some hr
  obtain ⟨x, hx, hr⟩ := hr
  · have hmem := List.mem_of_getElem? hx
    have sh := hs x hmem
    split at hr
    · rename_i hc
      obtain ⟨rfl, rfl⟩ := hc
      simp only [Pr.run, Option.some.injEq, Prod.mk.injEq] at hr
      obtain ⟨rfl, rfl⟩ := hr
      refine ⟨rfl, ?_⟩
      rw [he] at hT
      obtain rfl : te = t := by simpa using hT
      by_cases hag : te.agg = true
      · obtain ⟨c, rfl⟩ := sh.2.2.2 hag
        have hcell' : ∀ k y, c[k]? = some y → ∃ u, w.cell? ⟨b, o + (i * te.size + k), none⟩ = some u ∧ DR w S E.ty y u := fun k y hy => hcell i k _ y hx hy
        have hlen : c.length = te.size := sh.1
        let us : List Value := (List.range te.size).map fun k => (w.cell? ⟨b, o + (i * te.size + k), none⟩).getD undef
        have hus : ∀ k y, c[k]? = some y → us[k]? = some ((w.cell? ⟨b, o + (i * te.size + k), none⟩).getD undef) := fun k y hy => by
          have : k < te.size := by rw [← hlen]; exact (List.getElem?_eq_some_iff.1 hy).1
          simp [us, this]
        have hrange : w.rangeAt b (o + (i * te.size + 0)) us := by
          intro j u hu'
          have hj : j < te.size := by have := (List.getElem?_eq_some_iff.1 hu').1; simpa [us] using this
          obtain ⟨y, hy⟩ : ∃ y, c[j]? = some y := ⟨c[j]'(by omega), List.getElem?_eq_getElem (by omega)⟩
          obtain ⟨u1, h1, -⟩ := hcell' j y hy
          have h2 := hus j y hy
          rw [h1] at h2
          rw [h2] at hu'
          simp at hu'
          subst hu'
          rw [show o + (i * te.size + 0) + j = o + (i * te.size + j) by omega]; exact h1
        refine ⟨.agg us.toArray, run_loadAt_mid w b _ T us d hrange hu (by rw [hd, hag]) (by simp [hi, hsz, us]), .d _ _ (.agg c _ (by simp [us, hlen]) (fun y hy => sh.2.1 y hy) (fun k y u hy hu' => ?_))⟩
        obtain ⟨u1, h1, h2⟩ := hcell' k y hy
        have h3 := hus k y hy
        rw [h1] at h3
        have : u = u1 := by rw [List.getElem?_toArray, h3] at hu'; simpa using hu'.symm
        rw [this]; exact h2
      · have hag' : te.agg = false := by simpa using hag
        have h1 := tf.leaf hag'
        have hcx : x.cells = [x] := by
          cases x with
          | agg c => exact absurd (sh.2.2.1 ⟨c, rfl⟩) hag
          | _ => rfl
        obtain ⟨u, h2, h3⟩ := hcell i 0 x x hx (by rw [hcx]; rfl)
        exact ⟨u, run_loadVar_leaf w T b _ d u hu (by rw [hd, hag']) h2, .d _ _ h3⟩
    · split at hr
      · rename_i c
        split at hr
        · rename_i hle
          have hcell' : ∀ k y, c[k]? = some y → ∃ u, w.cell? ⟨b, o + (i * te.size + k), none⟩ = some u ∧ DR w S E.ty y u := fun k y hy => hcell i k _ y hx hy
          split at hr
          · rename_i hag
            simp only [Pr.run, Option.some.injEq, Prod.mk.injEq] at hr
            obtain ⟨rfl, rfl⟩ := hr
            refine ⟨rfl, ?_⟩
            let us : List Value := (List.range t.size).map fun k => (w.cell? ⟨b, o + (i * te.size + (off + k)), none⟩).getD undef
            have key : ∀ k y, ((c.drop off).take t.size)[k]? = some y → k < t.size ∧ c[off + k]? = some y := fun k y hy => by
              simp only [List.getElem?_take, List.getElem?_drop] at hy
              split at hy
              · exact ⟨by assumption, hy⟩
              · cases hy
            have hus : ∀ k, k < t.size → us[k]? = some ((w.cell? ⟨b, o + (i * te.size + (off + k)), none⟩).getD undef) := fun k hk => by simp [us, hk]
            have hrange : w.rangeAt b (o + (i * te.size + off)) us := by
              intro j u hu'
              have hj : j < t.size := by have := (List.getElem?_eq_some_iff.1 hu').1; simpa [us] using this
              obtain ⟨y, hy⟩ : ∃ y, c[off + j]? = some y := ⟨c[off + j]'(by omega), List.getElem?_eq_getElem (by omega)⟩
              obtain ⟨u1, h1, -⟩ := hcell' _ y hy
              rw [hus j hj, h1] at hu'
              simp at hu'
              subst hu'
              rw [show o + (i * te.size + off) + j = o + (i * te.size + (off + j)) by omega]; exact h1
            refine ⟨.agg us.toArray, run_loadAt_mid w b _ T us d hrange hu (by rw [hd, hag]) (by simp [hi, hsz, us]), .d _ _ (.agg _ _ (by simp [us]; omega) (fun y hy => ?_) (fun k y u hy hu' => ?_))⟩
            · exact sh.2.1 y (List.mem_of_mem_drop (List.mem_of_mem_take hy))
            · obtain ⟨hk, hy'⟩ := key k y hy
              obtain ⟨u1, h1, h2⟩ := hcell' _ y hy'
              have : u = u1 := by rw [List.getElem?_toArray, hus k hk, h1] at hu'; simpa using hu'.symm
              rw [this]; exact h2
          · rename_i hag
            have hag' : t.agg = false := by simpa using hag
            split at hr
            · rename_i y hy
              simp only [Pr.run, Option.some.injEq, Prod.mk.injEq] at hr
              obtain ⟨rfl, rfl⟩ := hr
              obtain ⟨u, h1, h2⟩ := hcell' off y hy
              exact ⟨rfl, u, run_loadVar_leaf w T b _ d u hu (by rw [hd, hag']) h1, .d _ _ h2⟩
            · cases hr
        · cases hr
      · cases hr

/-- The elements of data that lies in memory. -/
theorem DR.cells {w : World} {S : Nat → Prop} {Z : TypeId → Option Ty} {e : TypeId} {l : List D} {b o c : Nat} {te : Ty} (he : Z e = some te) (h : DR w S Z (.sl e l) (.slice (some ⟨b, o, none⟩) l.length c)) :
    (∀ x ∈ l, D.shaped te x) ∧ ∀ (j k : Nat) (x y : D), l[j]? = some x → x.cells[k]? = some y → ∃ u, w.cell? ⟨b, o + (j * te.size + k), none⟩ = some u ∧ DR w S Z y u := by
  generalize hv : Value.slice (some ⟨b, o, none⟩) l.length c = v at h
  generalize hx : D.sl e l = x at h
  cases h with
  | v => cases hx
  | agg => cases hx
  | nil e' A c' => obtain ⟨rfl, rfl⟩ := (D.sl.injEq _ _ _ _).mp hx; exact ⟨fun x hx => by simp at hx, fun j k x y hj => by simp at hj⟩
  | sl e' l' b' o' c' t u h1 h2 h3 h4 h5 h6 h7 h8 h9 =>
    obtain ⟨rfl, rfl⟩ := (D.sl.injEq _ _ _ _).mp hx
    obtain ⟨⟨rfl, rfl⟩, rfl⟩ : (b = b' ∧ o = o') ∧ c = c' := by simpa using hv
    rw [he] at h2
    obtain rfl : te = t := by simpa using h2
    refine ⟨h4, fun j k x y hj hk => ⟨u j k, h8 j k (List.getElem?_eq_some_iff.1 hj).1 ?_, h9 j k x y hj hk⟩⟩
    have := (List.getElem?_eq_some_iff.1 hk).1
    rw [(h4 x (List.mem_of_getElem? hj)).1] at this
    exact this

theorem OwnR.cells {w : World} {S : Nat → Prop} {Z : TypeId → Option Ty} {e : TypeId} {l : List D} {b n c : Nat} {te : Ty} (he : Z e = some te) (h : OwnR w S Z e l (.slice (some ⟨b, 0, none⟩) n c)) :
    (∀ x ∈ l, D.shaped te x) ∧ ∀ (j k : Nat) (x y : D), l[j]? = some x → x.cells[k]? = some y → ∃ u, w.cell? ⟨b, 0 + (j * te.size + k), none⟩ = some u ∧ DR w S Z y u := by
  rcases h with ⟨h, _⟩ | ⟨t, b', cap, cur, h1, h2, h3, h4, h5, h6, h7, h8, h9⟩
  · simp at h
  · obtain ⟨rfl, rfl, rfl⟩ : b = b' ∧ n = l.length ∧ c = cap := by simpa using h4
    rw [he] at h1
    obtain rfl : te = t := by simpa using h1
    refine ⟨h3, fun j k x y hj hk => ?_⟩
    obtain ⟨u, a1, a2, a3⟩ := h9 j k x y hj hk
    exact ⟨u, by rw [Nat.zero_add, cell_of_row w b _ cur e (0, 0) h5]; exact a1, a3⟩

theorem evLoad_sound (hZ : ∀ T t, E.ty T = some t → TyFacts P E.ty T t) (hC : C.Z = E.ty) (h : Rel C g F a w) {T : TypeId} {av v : AV} {pv : Value} {F' : St} (hv : VRs C g F w av pv)
    (hr : (evLoad E T av).run F = some (v, F')) : F' = F ∧ ∃ x, (Instr.loadAt T pv).run P w = .ok x w ∧ VRs C g F w v x := by
  unfold evLoad at hr
  obtain ⟨t, F1, h1, hr2⟩ := Pr.bind_some hr
  clear hr
  obtain ⟨hT, rfl⟩ := Pr.opt_some h1
  have tf := hZ T t hT
  obtain ⟨d, hu, hd⟩ := tf.agg
  obtain ⟨inf, hi, hsz, -⟩ := tf.info
  cases hv with
  | ptr x y off hl =>
    simp only [Pr.run] at hr2
    split at hr2
    · rename_i c hc
      split at hr2
      case isFalse => cases hr2
      rename_i hpl
      obtain ⟨cs, e, hh, hs, hcs⟩ := (h.vars x y c hc).cells hpl
      split at hr2
      · rename_i hle
        split at hr2
        · rename_i hag
          simp only [Pr.run, Option.some.injEq, Prod.mk.injEq] at hr2
          obtain ⟨rfl, rfl⟩ := hr2
          have hlen : ((cs.toList.drop off).take t.size).length = t.size := by simp; omega
          refine ⟨rfl, _, run_loadAt_mid w _ off T _ d (rangeAt_of_block hh off t.size) hu (by rw [hd, hag]) (by rw [hlen]; simp [hi, hsz]), mkAgg_rel (by simp; omega) (fun v hv => ?_) (fun j v u hj hu' => ?_)⟩
          · obtain ⟨j, hj⟩ := List.mem_iff_getElem?.1 (List.mem_of_mem_drop (List.mem_of_mem_take hv))
            exact (hcs j v hj).1
          · simp only [List.getElem?_take, List.getElem?_drop] at hj
            split at hj
            · rename_i hk
              obtain ⟨-, u1, h2, -, h4⟩ := hcs _ v hj
              have : u = u1 := by
                simp only [List.getElem?_toArray, List.getElem?_take, List.getElem?_drop, hk, if_true] at hu'
                rw [Array.getElem?_toList, h2] at hu'
                simpa using hu'.symm
              rw [this]; exact h4
            · cases hj
        · rename_i hag
          have hag' : t.agg = false := by simpa using hag
          split at hr2
          · rename_i v' hv'
            simp only [Pr.run, Option.some.injEq, Prod.mk.injEq] at hr2
            obtain ⟨rfl, rfl⟩ := hr2
            obtain ⟨-, u, h2, -, h4⟩ := hcs off v' hv'
            exact ⟨rfl, u, run_loadVar_leaf w T _ off d u hu (by rw [hd, hag']) (by rw [cell_of_row w _ _ cs e (0, 0) hh]; exact h2), h4⟩
          · cases hr2
      · cases hr2
    · cases hr2
  | eS e l i off b o c te h2 h3 h4 =>
    simp only at hr2
    rw [hC] at h3
    obtain ⟨p1, p2⟩ := DR.cells (by rw [hC]; exact h3) h2
    rw [VRs, hC] at *
    exact evElem_sound hZ hT h3 p1 p2 hr2
  | eR p q e i off b0 n c te hl hρ he =>
    rw [hC] at he
    simp only [Pr.run] at hr2
    split at hr2
    · rename_i e' l hc
      split at hr2
      · rename_i ee; subst ee
        have ho := h.owns p q e' l hc
        rw [hρ, hC] at ho
        obtain ⟨p1, p2⟩ := OwnR.cells he ho
        have := evElem_sound (L := live F1) (g := g) hZ hT he p1 p2 hr2
        rw [Nat.zero_add] at this
        rw [VRs, hC]
        exact this
      · cases hr2
    · rename_i e' l hc
      split at hr2
      · rename_i ee; subst ee
        have ho := h.fros p q e' l hc
        have hn : n = l.length := by
          rw [hρ] at ho
          generalize hvv : Value.slice (some ⟨b0, 0, none⟩) n c = vv at ho
          cases ho with
          | nil => simp at hvv; exact hvv.2.1
          | sl => have := hvv; simp at this; exact this.2.1
        subst hn
        rw [hρ, DRs, hC] at ho
        obtain ⟨p1, p2⟩ := DR.cells he ho
        have := evElem_sound (L := live F1) (g := g) hZ hT he p1 p2 hr2
        rw [Nat.zero_add] at this
        rw [VRs, hC]
        exact this
      · cases hr2
    · cases hr2
  | _ => cases hr2
end
end Go.Eng
end

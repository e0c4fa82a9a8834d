/- A small machine over values and objects with names of their own: what a function of the program answers, with no address, no capacity and no order in sight. Definitions alone; that it tells the truth of the model stands in EvSound. -/
import Derived.RowKit
namespace Go.Proofs.YtiljgimcipdadaaGreatDoor.Ev
open Go

/-- A value of one cell. Objects are named by their place in the list of objects. A slice: its object, where its address was before a cut that left it no room, where it begins (in elements), its length. -/
inductive SV where
  | bool (b : Bool)
  | int (k : IntKind) (n : Int)
  | flt (k : FloatKind) (b : Nat)
  | cpl (k : FloatKind) (re im : Nat)
  | str (s : ByteArray)
  | nilp
  | ptr (i o : Nat)
  | nils
  | sl (i p o n : Nat)
  | sl0 (i p o : Nat)
  | nilm
  | mp (i : Nat)
  | nilf
  | fn (f : Nat)
  | cl (i : Nat)
  | nili
  | iv (i : Nat)

/-- A value: one cell, a struct's cells, or what a call hands back. -/
inductive FV where
  | s (v : SV)
  | agg (l : List SV)
  | tup (l : List FV)

/-- An object: cells of the call's own (of an element type), cells that came in, one that is used up, a closure, a value in an interface, a map, a string that is gone through. -/
inductive LO where
  | own (t : Nat) (vs : List SV)
  | ro (t : Nat) (vs : List SV)
  | dead
  | clo (f : Nat) (first caps : List FV)
  | ifc (t : Nat) (v : FV)
  | map (es : List (SV × SV))
  | iter (s : ByteArray) (pos : Nat)

abbrev LH := List LO

inductive OD where
  | t (n : Nat)
  | c (v : FV)

/-- The operations, with what they need to know of types: t an element type, z its cells, y its bytes. -/
inductive EO where
  | mov (x : OD)
  | nilc (x : OD)
  | nilf (x : OD)
  | pick (c a b : OD)
  | load (agg : Bool) (n : Nat) (a : OD)
  | store (n : Nat) (a x : OD)
  | new (t n : Nat) (x : OD)
  | build (zero : List SV) (parts : List (Nat × Nat × OD))
  | bsl (t : Nat) (n : Nat) (zero : List SV) (parts : List (Nat × Nat × OD))
  | bin (op : BinOp) (x y : OD)
  | eqb (neq : Bool) (x y : OD)
  | eqp (neq : Bool) (x y : OD)
  | eqn (neq : Bool) (x y : OD)
  | eqs (neq : Bool) (offs : List (Nat × Nat)) (x y : OD)
  | un (op : UnOp) (x : OD)
  | toi (k : IntKind) (x : OD)
  | itof (k : FloatKind) (x : OD)
  | ftoi (k : IntKind) (x : OD)
  | b2s (t : Nat) (x : OD)
  | mkf (f : Nat) (first caps : List OD)
  | mki (t : Nat) (x : OD)
  | mks (t y : Nat) (zero : List SV) (l : OD)
  | sli (t z : Nat) (x : OD) (lo hi : Option OD)
  | sli0 (x : OD)
  | subs (x : OD) (lo hi : Option OD)
  | fad (off : Nat) (x : OD)
  | fld (agg : Bool) (off n : Nat) (x : OD)
  | iad (t z : Nat) (x i : OD)
  | idx (x i : OD)
  | ext (x : OD) (i : Nat)
  | call (f : Nat) (args : List OD)
  | callv (x : OD) (args : List OD)
  | len (x : OD)
  | slen (x : OD)
  | app (t z y : Nat) (x y' : OD)
  | apps (t y : Nat) (x s : OD)
  | appz (t y : Nat) (zero : List SV) (x n : OD)
  | copy (t z : Nat) (x y : OD)
  | clr (t : Nat) (zero : List SV) (x : OD)
  | mn (x : OD) (l : List OD)
  | mx (x : OD) (l : List OD)
  | re (x : OD)
  | im (x : OD)
  | cplx (x y : OD)
  | rng (x : OD)
  | nxt (x : OD)
  | mkm
  | mput (q : Bool) (m k x : OD)
  | mget (q ok : Bool) (zero : SV) (m k : OD)
  | mlen (x : OD)
  | s2b (t : Nat) (x : OD)

/-- An operation in its place: where its value goes, and when it is done. -/
structure EG where
  dst : Option Nat
  op : EO
  guard : Option (Nat × Bool)

inductive EC where
  | skip
  | ops (l : List EG) (keep : List Nat)
  | draw (l : List EG) (pairs : List (Nat × Nat)) (keep : List Nat)
  | seq (a b : EC)
  | cond (c : OD) (a b : EC)
  | block (id : Nat) (b : EC)
  | loop (keep : List Nat) (b : EC)
  | exit (id : Nat) (keep : List Nat)
  | ret (keep : List Nat)
  | scope (b : EC)
  | ext (n m : Nat) (g : List FV → LH → Option (List FV × LH))
  | label (l : Nat)
  | goto (l : Nat) (keep : List Nat)

inductive ER where
  | tmp (t : Nat)
  | cell (t : Nat) (agg : Bool) (n : Nat)

structure EF where
  slots : Nat
  body : EC
  res : List ER

/-- A frame: what its slots hold, the latest first. -/
abbrev Fr := List (Nat × Option FV)

def fget : Fr → Nat → Option FV
  | [], _ => none
  | (m, v) :: r, n => if n = m then v else fget r n

def fput (fr : Fr) (d : Option Nat) (v : Option FV) : Fr :=
  match d with
  | some n => (n, v) :: fr
  | none => fr

def keepF (keep : List Nat) (fr : Fr) : Fr := keep.map fun n => (n, fget fr n)

def odE (fr : Fr) : OD → Option FV
  | .t n => fget fr n
  | .c v => some v

def odS (fr : Fr) (x : OD) : Option SV :=
  match odE fr x with
  | some (.s v) => some v
  | _ => none

def odL (fr : Fr) : List OD → Option (List FV)
  | [] => some []
  | x :: r =>
    match odE fr x with
    | some v => (odL fr r).map (v :: ·)
    | none => none

def fcells : FV → Option (List SV)
  | .s v => some [v]
  | .agg l => some l
  | .tup _ => none

/-- No tuples among them. -/
def flat1 : List FV → Bool
  | [] => true
  | .tup _ :: _ => false
  | .s _ :: r => flat1 r
  | .agg _ :: r => flat1 r

/-- An object's cells, to be read. -/
def cellsOf (h : LH) (i : Nat) : Option (Nat × List SV) :=
  match h[i]? with
  | some (.own t vs) => some (t, vs)
  | some (.ro t vs) => some (t, vs)
  | _ => none

def setL : List SV → Nat → List SV → List SV
  | vs, _, [] => vs
  | vs, o, c :: r => setL (vs.set o c) (o + 1) r

/-- Parts (where, how many cells, which) laid into cells. -/
def fillE (fr : Fr) : List SV → List (Nat × Nat × OD) → Option (List SV)
  | cs, [] => some cs
  | cs, (o, n, x) :: r =>
    match (odE fr x).bind fcells with
    | some l => if l.length = n then if o + n ≤ cs.length then fillE fr (setL cs o l) r else none else none
    | none => none

def intOp (op : BinOp) (k : IntKind) (a b : Int) : Option SV :=
  match op with
  | .add => some (.int k (k.wrap (a + b)))
  | .sub => some (.int k (k.wrap (a - b)))
  | .mul => some (.int k (k.wrap (a * b)))
  | .quo => if b = 0 then none else some (.int k (k.wrap (a.tdiv b)))
  | .rem => if b = 0 then none else some (.int k (a.tmod b))
  | .eql => some (.bool (a == b))
  | .neq => some (.bool (a != b))
  | .lss => some (.bool (a < b))
  | .leq => some (.bool (a ≤ b))
  | .gtr => some (.bool (a > b))
  | .geq => some (.bool (a ≥ b))
  | .and => some (.int k (k.wrap (BitVec.ofInt k.bits a &&& BitVec.ofInt k.bits b).toNat))
  | .or => some (.int k (k.wrap (BitVec.ofInt k.bits a ||| BitVec.ofInt k.bits b).toNat))
  | .xor => some (.int k (k.wrap (BitVec.ofInt k.bits a ^^^ BitVec.ofInt k.bits b).toNat))
  | _ => none

def strOp (op : BinOp) (a b : ByteArray) : Option SV :=
  match op with
  | .add => if ((a.size + b.size : Nat) : Int) ≤ 9223372036854775807 then some (.str (a ++ b)) else none
  | .eql => some (.bool (a.toList == b.toList))
  | .neq => some (.bool (!(a.toList == b.toList)))
  | .lss => some (.bool (Op.bytesLess a.toList b.toList))
  | .leq => some (.bool (Op.bytesLess a.toList b.toList || a.toList == b.toList))
  | .gtr => some (.bool (!(Op.bytesLess a.toList b.toList || a.toList == b.toList)))
  | .geq => some (.bool (!(Op.bytesLess a.toList b.toList)))
  | _ => none

def cplOp (op : BinOp) (a b c d : Nat) : Option SV :=
  match op with
  | .add => match FloatKind.f64.format.add a c, FloatKind.f64.format.add b d with
    | some x, some y => some (.cpl .f64 x y)
    | _, _ => none
  | .eql => some (.bool (FloatKind.f64.format.order a c == some .eq && FloatKind.f64.format.order b d == some .eq))
  | .neq => some (.bool (!(FloatKind.f64.format.order a c == some .eq && FloatKind.f64.format.order b d == some .eq)))
  | _ => none

def fltOp (op : BinOp) (a b : Nat) : Option SV :=
  match op with
  | .eql => some (.bool (FloatKind.f64.format.order a b == some .eq))
  | .neq => some (.bool (FloatKind.f64.format.order a b != some .eq))
  | _ => none

def shOp (op : BinOp) (k : IntKind) (a b : Int) : Option SV :=
  if b < 0 then none else
  match op with
  | .shl => some (.int k (k.wrap (a * 2 ^ min b.toNat k.bits)))
  | .shr => some (.int k (a.fdiv (2 ^ min b.toNat k.bits)))
  | _ => none

def binE (op : BinOp) (x y : SV) : Option SV :=
  match x, y with
  | .int k a, .int k' b =>
    if op = .shl ∨ op = .shr then shOp op k a b else if k = k' then intOp op k a b else none
  | .str a, .str b => strOp op a b
  | .cpl .f64 a b, .cpl .f64 c d => cplOp op a b c d
  | .flt .f64 a, .flt .f64 b => fltOp op a b
  | _, _ => none

/-- A pointer against nil. -/
def eqpE : SV → SV → Option Bool
  | .nilp, .nilp => some true
  | .nilp, .ptr _ _ => some false
  | .ptr _ _, .nilp => some false
  | _, _ => none

/-- A slice against nil. -/
def eqnE : SV → SV → Option Bool
  | .nils, .nils => some true
  | .nils, .sl _ _ _ _ => some false
  | .sl _ _ _ _, .nils => some false
  | .nils, .sl0 _ _ _ => some false
  | .sl0 _ _ _, .nils => some false
  | _, _ => none

def neqB (neq b : Bool) : FV := .s (.bool (if neq then !b else b))

/-- '==' of two cells of a struct, by their kind: 0 a whole number, 1 a bool, 2 a string. -/
def cellEq : Nat → SV → SV → Option Bool
  | 0, .int k a, .int k' b => if k = k' then some (a == b) else none
  | 1, .bool a, .bool b => some (a == b)
  | 2, .str a, .str b => some (a == b)
  | _, _, _ => none

def cellsEq (xs ys : List SV) : List (Nat × Nat) → Option Bool
  | [] => some true
  | (o, q) :: r =>
    match xs[o]?, ys[o]? with
    | some x, some y =>
      match cellEq q x y with
      | some true => cellsEq xs ys r
      | some false => some false
      | none => none
    | _, _ => none

def unE (op : UnOp) (x : SV) : Option SV :=
  match op, x with
  | .neg, .int k n => some (.int k (k.wrap (0 - n)))
  | .not, .bool b => some (.bool !b)
  | _, _ => none

def lenE : SV → Option Nat
  | .nils => some 0
  | .sl _ _ _ n => some n
  | .sl0 _ _ _ => some 0
  | _ => none

/-- The cells of a slice's elements. -/
def elems (h : LH) (t z : Nat) : SV → Option (List SV)
  | .nils => some []
  | .sl0 _ _ _ => some []
  | .sl _ _ _ 0 => some []
  | .sl i _ o n =>
    match cellsOf h i with
    | some (t', vs) => if t' = t then if (o + n) * z ≤ vs.length then some ((vs.drop (o * z)).take (n * z)) else none else none
    | none => none
  | _ => none

/-- A string's bytes, as cells. -/
def strCells (s : ByteArray) : List SV := s.data.toList.map fun b => SV.int .u8 b.toNat

/-- append of cells (n elements of z cells, of y bytes). -/
def appE (h : LH) (t z y : Nat) (x : SV) (n : Nat) (new : List SV) : Option (FV × LH) :=
  if n = 0 then
    match x with
    | .nils => some (.s .nils, h)
    | .sl i p o m => some (.s (.sl i p o m), h)
    | .sl0 i p o => some (.s (.sl0 i p o), h)
    | _ => none
  else
    match x with
    | .nils | .sl0 _ _ _ => if n * y ≤ 140737488355328 then some (.s (.sl h.length 0 0 n), h ++ [.own t new]) else none
    | .sl i _ o m =>
      match h[i]? with
      | some (.own t' vs) =>
        if t' = t then if (o + m) * z ≤ vs.length then if (m + n) * y ≤ 140737488355328 then
          some (.s (.sl h.length 0 0 (m + n)), h.set i .dead ++ [.own t ((vs.drop (o * z)).take (m * z) ++ new)])
        else none else none else none
      | _ => none
    | _ => none

def rep (n : Nat) (zero : List SV) : List SV := (List.replicate n zero).flatten

def minE (k : IntKind) (a : Int) : List SV → Option SV
  | [] => some (.int k a)
  | .int _ b :: r => minE k (if b < a then b else a) r
  | _ => none

def maxE (k : IntKind) (a : Int) : List SV → Option SV
  | [] => some (.int k a)
  | .int _ b :: r => maxE k (if b > a then b else a) r
  | _ => none

def odSL (fr : Fr) : List OD → Option (List SV)
  | [] => some []
  | x :: r =>
    match odS fr x with
    | some v => (odSL fr r).map (v :: ·)
    | none => none

def bytesOf : List SV → Option (List UInt8)
  | [] => some []
  | .int .u8 n :: r => (bytesOf r).map (UInt8.ofNat n.toNat :: ·)
  | _ => none

def bound (fr : Fr) (d : Nat) : Option OD → Option Nat
  | none => some d
  | some x =>
    match odS fr x with
    | some (.int _ n) => if 0 ≤ n then some n.toNat else none
    | _ => none

/-- Constants that name no object. -/
def nlS : SV → Bool
  | .ptr _ _ | .sl _ _ _ _ | .sl0 _ _ _ | .mp _ | .cl _ | .iv _ => false
  | _ => true

/-- Keys of a map: texts and whole numbers. -/
def keyEq : SV → SV → Option Bool
  | .str a, .str b => some (a == b)
  | .int k a, .int k' b => if k = k' then some (a == b) else none
  | _, _ => none

def getM (k : SV) : List (SV × SV) → Option (Option SV)
  | [] => some none
  | e :: r =>
    match keyEq k e.1 with
    | some true => some (some e.2)
    | some false => getM k r
    | none => none

def putM (k v : SV) : List (SV × SV) → Option (List (SV × SV))
  | [] => some [(k, v)]
  | e :: r =>
    match keyEq k e.1 with
    | some true => some ((k, v) :: r)
    | some false => (putM k v r).map (e :: ·)
    | none => none

/-- A key: a text (q), or a whole number. -/
def isKey (q : Bool) : SV → Bool
  | .str _ => q
  | .int _ _ => !q
  | _ => false

/-- Every operation but a call. -/
def opE (fr : Fr) (h : LH) : EO → Option (FV × LH)
  | .mov x => (odE fr x).map (·, h)
  | .nilc x =>
    match odS fr x with
    | some (.ptr i o) => some (.s (.ptr i o), h)
    | _ => none
  | .nilf x =>
    match odS fr x with
    | some (.cl i) =>
      match h[i]? with
      | some (.clo _ _ _) => some (.s (.cl i), h)
      | _ => none
    | some (.fn f) => some (.s (.fn f), h)
    | _ => none
  | .pick c a b =>
    match odS fr c, odE fr a, odE fr b with
    | some (.bool t), some x, some y => some (if t then x else y, h)
    | _, _, _ => none
  | .load agg n a =>
    match odS fr a with
    | some (.ptr i o) =>
      match cellsOf h i with
      | some (_, vs) =>
        if agg then if o + n ≤ vs.length then some (.agg ((vs.drop o).take n), h) else none
        else match vs[o]? with
          | some v => some (.s v, h)
          | none => none
      | none => none
    | _ => none
  | .store n a x =>
    match odS fr a, (odE fr x).bind fcells with
    | some (.ptr i o), some l =>
      match h[i]? with
      | some (.own t vs) => if l.length = n then if o + n ≤ vs.length then some (.tup [], h.set i (.own t (setL vs o l))) else none else none
      | _ => none
    | _, _ => none
  | .new t n x =>
    match (odE fr x).bind fcells with
    | some l => if l.length = n then some (.s (.ptr h.length 0), h ++ [.own t l]) else none
    | none => none
  | .build zero parts => (fillE fr zero parts).map (.agg ·, h)
  | .bsl t n zero parts => (fillE fr (rep n zero) parts).map fun l => (.s (.sl h.length 0 0 n), h ++ [.own t l])
  | .bin op x y =>
    match odS fr x, odS fr y with
    | some a, some b => (binE op a b).map (.s ·, h)
    | _, _ => none
  | .eqb neq x y =>
    match odS fr x, odS fr y with
    | some (.bool a), some (.bool b) => some (neqB neq (a == b), h)
    | _, _ => none
  | .eqp neq x y =>
    match odS fr x, odS fr y with
    | some a, some b => (eqpE a b).map fun t => (neqB neq t, h)
    | _, _ => none
  | .eqn neq x y =>
    match odS fr x, odS fr y with
    | some a, some b => (eqnE a b).map fun t => (neqB neq t, h)
    | _, _ => none
  | .eqs neq offs x y =>
    match odE fr x, odE fr y with
    | some (.agg xs), some (.agg ys) => (cellsEq xs ys offs).map fun b => (neqB neq b, h)
    | _, _ => none
  | .un op x =>
    match odS fr x with
    | some a => (unE op a).map (.s ·, h)
    | none => none
  | .toi k x =>
    match odS fr x with
    | some (.int _ n) => some (.s (.int k (k.wrap n)), h)
    | _ => none
  | .itof k x =>
    match odS fr x with
    | some (.int _ n) => some (.s (.flt k (k.nearest n)), h)
    | _ => none
  | .ftoi k x =>
    match odS fr x with
    | some (.flt s b) =>
      match (s.decode b).toInt .zero with
      | some n => if k.min ≤ n ∧ n ≤ k.max then some (.s (.int k n), h) else none
      | none => none
    | _ => none
  | .b2s t x =>
    match odS fr x with
    | some v =>
      match (elems h t 1 v).bind bytesOf with
      | some l => some (.s (.str ⟨l.toArray⟩), h)
      | none => none
    | none => none
  | .mkf f first caps =>
    match odL fr first, odL fr caps with
    | some a, some b => if flat1 a && flat1 b then some (.s (.cl h.length), h ++ [.clo f a b]) else none
    | _, _ => none
  | .mki t x =>
    match odE fr x with
    | some v => if flat1 [v] then some (.s (.iv h.length), h ++ [.ifc t v]) else none
    | none => none
  | .mks t y zero l =>
    match odS fr l with
    | some (.int .i64 n) => if 0 ≤ n then if n.toNat * y ≤ 140737488355328 then some (.s (.sl h.length 0 0 n.toNat), h ++ [.own t (rep n.toNat zero)]) else none else none
    | _ => none
  | .sli t _ x lo hi =>
    match odS fr x with
    | some .nils =>
      match bound fr 0 lo, bound fr 0 hi with
      | some 0, some 0 => some (.s .nils, h)
      | _, _ => none
    | some (.sl i p o n) =>
      match bound fr 0 lo, bound fr n hi, cellsOf h i with
      | some l, some u, some (t', _) => if t' = t then if l ≤ u then if u ≤ n then some (.s (.sl i (if l = 0 then p else o) (o + l) (u - l)), h) else none else none else none
      | _, _, _ => none
    | _ => none
  | .subs x lo hi =>
    match odS fr x with
    | some (.str s) =>
      match bound fr 0 lo, bound fr s.size hi with
      | some l, some u => if l ≤ u then if u ≤ s.size then some (.s (.str (s.extract l u)), h) else none else none
      | _, _ => none
    | _ => none
  | .sli0 x =>
    match odS fr x with
    | some .nils => some (.s .nils, h)
    | some (.sl i p o _) => some (.s (.sl0 i p o), h)
    | some (.sl0 i p o) => some (.s (.sl0 i p o), h)
    | _ => none
  | .fad off x =>
    match odS fr x with
    | some (.ptr i o) => some (.s (.ptr i (o + off)), h)
    | _ => none
  | .fld agg off n x =>
    match odE fr x with
    | some (.agg l) =>
      if agg then if off + n ≤ l.length then some (.agg ((l.drop off).take n), h) else none
      else match l[off]? with
        | some v => some (.s v, h)
        | none => none
    | _ => none
  | .iad t z x i =>
    match odS fr x, odS fr i with
    | some (.sl j _ o n), some (.int _ k) =>
      match cellsOf h j with
      | some (t', _) => if t' = t then if 0 ≤ k then if k < n then some (.s (.ptr j ((o + k.toNat) * z)), h) else none else none else none
      | none => none
    | _, _ => none
  | .idx x i =>
    match odS fr x, odS fr i with
    | some (.str s), some (.int _ k) =>
      if 0 ≤ k then match s.data.toList[k.toNat]? with
        | some b => some (.s (.int .u8 b.toNat), h)
        | none => none
      else none
    | _, _ => none
  | .ext x i =>
    match odE fr x with
    | some (.tup l) =>
      match l[i]? with
      | some v => some (v, h)
      | none => none
    | _ => none
  | .len x =>
    match odS fr x with
    | some v => (lenE v).map fun (n : Nat) => (FV.s (.int .i64 (n : Int)), h)
    | none => none
  | .slen x =>
    match odS fr x with
    | some (.str s) => some (.s (.int .i64 s.size), h)
    | _ => none
  | .app t z y x y' =>
    match odS fr x, odS fr y' with
    | some v, some u =>
      match lenE u, elems h t z u with
      | some n, some new => appE h t z y v n new
      | _, _ => none
    | _, _ => none
  | .apps t y x s =>
    match odS fr x, odS fr s with
    | some v, some (.str b) => appE h t 1 y v b.size (strCells b)
    | _, _ => none
  | .appz t y zero x n =>
    match odS fr x, odS fr n with
    | some v, some (.int .i64 m) => if 0 ≤ m then appE h t zero.length y v m.toNat (rep m.toNat zero) else none
    | _, _ => none
  | .copy t z x y =>
    match odS fr x, odS fr y with
    | some (.sl i _ o m), some u =>
      match h[i]?, lenE u, elems h t z u with
      | some (.own t' vs), some n, some new =>
        if t' = t then if (o + m) * z ≤ vs.length then some (.s (.int .i64 (min n m : Nat)), h.set i (.own t' (setL vs (o * z) (new.take (min n m * z))))) else none else none
      | _, _, _ => none
    | _, _ => none
  | .clr t zero x =>
    match odS fr x with
    | some .nils => some (.tup [], h)
    | some (.sl _ _ _ 0) => some (.tup [], h)
    | some (.sl i _ o n) =>
      match h[i]? with
      | some (.own t' vs) => if t' = t then if (o + n) * zero.length ≤ vs.length then some (.tup [], h.set i (.own t' (setL vs (o * zero.length) (rep n zero)))) else none else none
      | _ => none
    | _ => none
  | .mn x l =>
    match odS fr x, odSL fr l with
    | some (.int k a), some vs => (minE k a vs).map (.s ·, h)
    | _, _ => none
  | .mx x l =>
    match odS fr x, odSL fr l with
    | some (.int k a), some vs => (maxE k a vs).map (.s ·, h)
    | _, _ => none
  | .re x =>
    match odS fr x with
    | some (.cpl k a _) => some (.s (.flt k a), h)
    | _ => none
  | .im x =>
    match odS fr x with
    | some (.cpl k _ b) => some (.s (.flt k b), h)
    | _ => none
  | .cplx x y =>
    match odS fr x, odS fr y with
    | some (.flt .f64 a), some (.flt .f64 b) => some (.s (.cpl .f64 a b), h)
    | _, _ => none
  | .rng x =>
    match odS fr x with
    | some (.str s) => some (.s (.ptr h.length 0), h ++ [.iter s 0])
    | _ => none
  | .nxt x =>
    match odS fr x with
    | some (.ptr i 0) =>
      match h[i]? with
      | some (.iter s pos) =>
        match s.data.toList[pos]? with
        | some b => if b.toNat < 128 then some (.tup [.s (.bool true), .s (.int .i64 pos), .s (.int .i32 b.toNat)], h.set i (.iter s (pos + 1))) else none
        | none => some (.tup [.s (.bool false)], h)
      | _ => none
    | _ => none
  | .mkm => some (.s (.mp h.length), h ++ [.map []])
  | .mput q m k x =>
    match odS fr m, odS fr k, odS fr x with
    | some (.mp i), some a, some v =>
      match h[i]? with
      | some (.map es) => if isKey q a && nlS v then (putM a v es).map fun es' => (.tup [], h.set i (.map es')) else none
      | _ => none
    | _, _, _ => none
  | .mget q ok zero m k =>
    match odS fr m, odS fr k with
    | some (.mp i), some a =>
      match h[i]? with
      | some (.map es) =>
        if isKey q a then
          match getM a es with
          | some r => some (if ok then .tup [.s (r.getD zero), .s (.bool r.isSome)] else .s (r.getD zero), h)
          | none => none
        else none
      | _ => none
    | _, _ => none
  | .mlen x =>
    match odS fr x with
    | some (.mp i) =>
      match h[i]? with
      | some (.map es) => some (.s (.int .i64 es.length), h)
      | _ => none
    | _ => none
  | .s2b t x =>
    match odS fr x with
    | some (.str s) => some (.s (.sl h.length 0 0 s.size), h ++ [.own t (strCells s)])
    | _ => none
  | .call _ _ => none
  | .callv _ _ => none

/-- What a call is: of a function, with its arguments. -/
def calleeE (fr : Fr) (h : LH) : EO → Option (Nat × List FV)
  | .call f args => (odL fr args).map (f, ·)
  | .callv x args =>
    match odS fr x, odL fr args with
    | some (.fn f), some l => some (f, l)
    | some (.cl i), some l =>
      match h[i]? with
      | some (.clo f first caps) => some (f, first ++ l ++ caps)
      | _ => none
    | _, _ => none
  | _ => none

def isCall : EO → Bool
  | .call _ _ => true
  | .callv _ _ => true
  | _ => false

abbrev CallE := Nat → List FV → LH → Option (FV × LH)

def stepE (call : CallE) (fr : Fr) (h : LH) (o : EO) : Option (FV × LH) :=
  if isCall o then match calleeE fr h o with
    | some (f, args) => call f args h
    | none => none
  else opE fr h o

/-- Is an operation done? -/
def wantE (fr : Fr) : Option (Nat × Bool) → Option Bool
  | none => some true
  | some (s, b) =>
    match fget fr s with
    | some (.s (.bool t)) => some (t == b)
    | some (.tup []) => some false
    | _ => none

def opsE (call : CallE) : List EG → Fr → LH → Option (Fr × LH)
  | [], fr, h => some (fr, h)
  | g :: r, fr, h =>
    match wantE fr g.guard with
    | some true =>
      match stepE call fr h g.op with
      | some (v, h') => opsE call r (fput fr g.dst (some v)) h'
      | none => none
    | some false => opsE call r (fput fr g.dst (some (.tup []))) h
    | none => none

/-- What an operation met, and what it told. -/
structure TE where
  fr : Fr
  h : LH
  op : EO
  v : FV
  h' : LH

/-- Which slots an operation looks at. -/
def odT : OD → List Nat
  | .t n => [n]
  | .c _ => []

def odsT : List OD → List Nat
  | [] => []
  | x :: r => odT x ++ odsT r

def optT : Option OD → List Nat
  | none => []
  | some x => odT x

def partsT : List (Nat × Nat × OD) → List Nat
  | [] => []
  | p :: r => odT p.2.2 ++ partsT r

def slotsE : EO → List Nat
  | .mov x | .nilc x | .nilf x | .un _ x | .toi _ x | .itof _ x | .ftoi _ x | .b2s _ x | .mki _ x | .sli0 x | .fad _ x | .fld _ _ _ x | .ext x _ | .len x | .slen x | .clr _ _ x | .re x | .im x => odT x
  | .load _ _ x => odT x
  | .new _ _ x => odT x
  | .mks _ _ _ x => odT x
  | .pick c a b => odT c ++ odT a ++ odT b
  | .store _ a x => odT a ++ odT x
  | .build _ ps => partsT ps
  | .bsl _ _ _ ps => partsT ps
  | .bin _ x y | .eqb _ x y | .eqp _ x y | .eqn _ x y | .eqs _ _ x y | .cplx x y => odT x ++ odT y
  | .mkf _ a b => odsT a ++ odsT b
  | .sli _ _ x a b => odT x ++ optT a ++ optT b
  | .subs x a b => odT x ++ optT a ++ optT b
  | .iad _ _ x i => odT x ++ odT i
  | .idx x i => odT x ++ odT i
  | .call _ l => odsT l
  | .callv x l => odT x ++ odsT l
  | .app _ _ _ x y => odT x ++ odT y
  | .apps _ _ x y => odT x ++ odT y
  | .appz _ _ _ x y => odT x ++ odT y
  | .copy _ _ x y => odT x ++ odT y
  | .mn x l | .mx x l => odT x ++ odsT l
  | .rng x | .nxt x | .mlen x | .s2b _ x => odT x
  | .mkm => []
  | .mput _ m k x => odT m ++ odT k ++ odT x
  | .mget _ _ _ m k => odT m ++ odT k

def slotsG (g : EG) : List Nat :=
  match g.guard with
  | none => slotsE g.op
  | some (s, _) => s :: slotsE g.op

/-- The same, each operation kept; it is done in a frame of the slots alone that it looks at. -/
def traceE (call : CallE) : List EG → Fr → LH → Option (List (Option TE) × Fr × LH)
  | [], fr, h => some ([], fr, h)
  | g :: r, fr, h =>
    match wantE (keepF (slotsG g) fr) g.guard with
    | some true =>
      match stepE call (keepF (slotsG g) fr) h g.op with
      | some (v, h') => (traceE call r (fput fr g.dst (some v)) h').map fun x => (some ⟨keepF (slotsG g) fr, h, g.op, v, h'⟩ :: x.1, x.2)
      | none => none
    | some false => (traceE call r (fput fr g.dst (some (.tup []))) h).map fun x => (none :: x.1, x.2)
    | none => none

/-- Does an operation look at memory? May it change it? -/
def looksE : EO → Bool
  | .mov _ | .nilc _ | .pick _ _ _ | .build _ _ | .bin _ _ _ | .eqb _ _ _ | .eqp _ _ _ | .eqn _ _ _ | .eqs _ _ _ _ | .un _ _ | .toi _ _ | .itof _ _ | .ftoi _ _ | .fad _ _ | .fld _ _ _ _ | .idx _ _ | .ext _ _
  | .len _ | .slen _ | .mn _ _ | .mx _ _ | .re _ | .im _ | .cplx _ _ | .sli0 _ | .subs _ _ _ => false
  | _ => true

def changesE : EO → Bool
  | .store _ _ _ | .new _ _ _ | .bsl _ _ _ _ | .mkf _ _ _ | .mki _ _ | .mks _ _ _ _ | .call _ _ | .callv _ _ | .app _ _ _ _ _ | .apps _ _ _ _ | .appz _ _ _ _ _ | .copy _ _ _ _ | .clr _ _ _ | .rng _ | .nxt _ | .mkm | .mput _ _ _ _ | .s2b _ _ => true
  | _ => false

/-- The objects that a value names are of S. -/
def nmS (S : Nat → Prop) : SV → Prop
  | .ptr i _ => S i
  | .sl i _ _ _ => S i
  | .sl0 i _ _ => S i
  | .mp i => S i
  | .cl i => S i
  | .iv i => S i
  | _ => True

def nmL (S : Nat → Prop) : List SV → Prop
  | [] => True
  | v :: r => nmS S v ∧ nmL S r

mutual
def nmV (S : Nat → Prop) : FV → Prop
  | .s v => nmS S v
  | .agg l => nmL S l
  | .tup l => nmVL S l
def nmVL (S : Nat → Prop) : List FV → Prop
  | [] => True
  | v :: r => nmV S v ∧ nmVL S r
end

/-- A frame names objects below n alone. -/
def frLt (n : Nat) : Fr → Prop
  | [] => True
  | (_, some v) :: r => nmV (· < n) v ∧ frLt n r
  | (_, none) :: r => frLt n r

/-- The object that an operation reads. -/
def rdO (fr : Fr) : EO → Option Nat
  | .load _ _ a => match odS fr a with
    | some (.ptr i _) => some i
    | _ => none
  | .nilf x => match odS fr x with
    | some (.cl i) => some i
    | _ => none
  | .b2s _ x => match odS fr x with
    | some (.sl i _ _ _) => some i
    | _ => none
  | .sli _ _ x _ _ => match odS fr x with
    | some (.sl i _ _ _) => some i
    | _ => none
  | .iad _ _ x _ => match odS fr x with
    | some (.sl i _ _ _) => some i
    | _ => none
  | .mget _ _ _ x _ => match odS fr x with
    | some (.mp i) => some i
    | _ => none
  | .mlen x => match odS fr x with
    | some (.mp i) => some i
    | _ => none
  | _ => none

/-- What an operation reads came later. -/
def rdAft (n : Nat) (fr : Fr) (op : EO) : Prop := match rdO fr op with
  | some p => n ≤ p
  | none => False

/-- Operation i does not hang on whether j is done ahead of it. -/
def okPair (call : CallE) (tr : List (Option TE)) (p : Nat × Nat) : Prop :=
  match tr[p.1]?, tr[p.2]? with
  | some (some a), some (some b) => b.h' = b.h ∨ (stepE call a.fr b.h a.op = some (a.v, b.h) ∧ stepE call a.fr b.h' a.op = some (a.v, b.h') ∧ (changesE a.op = true → a.h' = a.h ∧ frLt b.h.length a.fr)) ∨ (changesE a.op = false ∧ rdAft b.h'.length a.fr a.op)
  | some _, some _ => True
  | _, _ => False

def okPairs (call : CallE) (tr : List (Option TE)) : List (Nat × Nat) → Prop
  | [] => True
  | p :: r => okPair call tr p ∧ okPairs call tr r

open Classical in
noncomputable def drawE (call : CallE) (l : List EG) (pairs : List (Nat × Nat)) (fr : Fr) (h : LH) : Option (Fr × LH) :=
  match traceE call l fr h with
  | some (tr, fr', h') => if okPairs call tr pairs then some (fr', h') else none
  | none => none

inductive Ex where
  | normal
  | exit (id : Nat)
  | goto (l : Nat)
  | ret

abbrev Out := Option (Ex × Fr × LH)

/-- Rounds of a loop, at most n. -/
def loopN (body : Fr → LH → Out) (keep : List Nat) : Nat → Fr → LH → Out
  | 0, _, _ => none
  | n + 1, fr, h =>
    match body (keepF keep fr) h with
    | some (.normal, fr', h') => loopN body keep n fr' h'
    | r => r

/-- Is a label on the code's spine? -/
def hasL : EC → Nat → Bool
  | .seq a b, l => hasL a l || hasL b l
  | .label l', l => l' == l
  | _, _ => false

/-- Behind a goto: on from the label, as long as there is one. -/
def scopeN (at' : Nat → Fr → LH → Out) (has : Nat → Bool) : Nat → Out → Out
  | n, r =>
    match r with
    | some (.goto l, fr, h) => if has l then match n with
      | 0 => none
      | n + 1 => scopeN at' has n (at' l fr h) else some (.goto l, fr, h)
    | r => r

def initE : Nat → List FV → Fr
  | _, [] => []
  | n, v :: r => (n, some v) :: initE (n + 1) r

/-- The first slots' values. -/
def argsF (fr : Fr) : Nat → Nat → Option (List FV)
  | _, 0 => some []
  | i, k + 1 =>
    match fget fr i with
    | some v => (argsF fr (i + 1) k).map (v :: ·)
    | none => none

/-- What a function of no code here comes to: its results, behind its arguments. -/
def extE (n m : Nat) (g : List FV → LH → Option (List FV × LH)) (fr : Fr) (h : LH) : Out :=
  match (argsF fr 0 n).bind fun args => g args h with
  | some (vs, h') => if vs.length = m then if h.length ≤ h'.length then some (.normal, initE n vs, h') else none else none
  | none => none

mutual
noncomputable def codeE (call : CallE) (n : Nat) : EC → Fr → LH → Out
  | .skip, fr, h => some (.normal, fr, h)
  | .label _, fr, h => some (.normal, fr, h)
  | .ops l keep, fr, h => (opsE call l fr h).map fun x => (.normal, keepF keep x.1, x.2)
  | .draw l ps keep, fr, h => (drawE call l ps fr h).map fun x => (.normal, keepF keep x.1, x.2)
  | .seq a b, fr, h =>
    match codeE call n a fr h with
    | some (.normal, fr', h') => codeE call n b fr' h'
    | r => r
  | .cond c a b, fr, h =>
    match odS fr c with
    | some (.bool t) => if t then codeE call n a fr h else codeE call n b fr h
    | _ => none
  | .block id b, fr, h =>
    match codeE call n b fr h with
    | some (.exit id', fr', h') => if id' = id then some (.normal, fr', h') else some (.exit id', fr', h')
    | r => r
  | .loop keep b, fr, h => loopN (codeE call n b) keep n fr h
  | .exit id keep, fr, h => some (.exit id, keepF keep fr, h)
  | .ret keep, fr, h => some (.ret, keepF keep fr, h)
  | .goto l keep, fr, h => some (.goto l, keepF keep fr, h)
  | .scope b, fr, h => scopeN (codeAt call n b) (hasL b) n (codeE call n b fr h)
  | .ext k m g, fr, h => extE k m g fr h
noncomputable def codeAt (call : CallE) (n : Nat) : EC → Nat → Fr → LH → Out
  | .seq a b, l, fr, h =>
    if hasL a l then match codeAt call n a l fr h with
    | some (.normal, fr', h') => codeE call n b fr' h'
    | r => r
    else codeAt call n b l fr h
  | .label l', l, fr, h => if l' == l then some (.normal, fr, h) else none
  | _, _, _, _ => none
end

def resE (fr : Fr) (h : LH) : ER → Option FV
  | .tmp t => fget fr t
  | .cell t g n => (opE fr h (.load g n (.t t))).map (·.1)

def ressE (fr : Fr) (h : LH) : List ER → Option (List FV)
  | [] => some []
  | r :: l =>
    match resE fr h r with
    | some v => (ressE fr h l).map (v :: ·)
    | none => none

def packE : List FV → FV
  | [v] => v
  | l => .tup l

def packL (l : Option (List FV)) (h : LH) : Option (FV × LH) :=
  match l with
  | some l => if flat1 l then some (packE l, h) else none
  | none => none

/-- A call, n deep and with n rounds at most. -/
noncomputable def callE (C : Nat → Option EF) : Nat → CallE
  | 0, _, _, _ => none
  | n + 1, f, args, h =>
    match C f with
    | none => none
    | some e =>
      if args.length ≤ e.slots then
        match codeE (callE C n) n e.body (initE 0 args) h with
        | some (.normal, fr, h') => packL (ressE fr h' e.res) h'
        | some (.ret, fr, h') => packL (ressE fr h' e.res) h'
        | _ => none
      else none

end Go.Proofs.YtiljgimcipdadaaGreatDoor.Ev

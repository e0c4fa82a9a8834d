/- From the model's code to the small machine's. -/
import Derived.Test.YtiljgimcipdadaaGreatDoorEv
namespace Go.Proofs.YtiljgimcipdadaaGreatDoor.Ev
open Go

def absS : Value → Option SV
  | .bool b => some (.bool b)
  | .int k n => some (.int k n)
  | .float k b => some (.flt k b)
  | .complex k a b => some (.cpl k a b)
  | .string s => some (.str s)
  | .pointer none => some .nilp
  | .slice none 0 0 => some .nils
  | .map none => some .nilm
  | .nilFunc => some .nilf
  | .nilIface => some .nili
  | .func (.func f) a b => if a.size = 0 then if b.size = 0 then some (.fn f) else none else none
  | _ => none

def absL : List Value → Option (List SV)
  | [] => some []
  | v :: r =>
    match absS v with
    | some x => (absL r).map (x :: ·)
    | none => none

def absV : Value → Option FV
  | .agg cs => (absL cs.toList).map .agg
  | v => (absS v).map .s

def compOD : Operand → Option OD
  | .tmp t => some (.t t)
  | .const v => (absV v).map .c
  | .func f => some (.c (.s (.fn f)))
  | .global _ => none

def compODs : List Operand → Option (List OD)
  | [] => some []
  | x :: r =>
    match compOD x with
    | some y => (compODs r).map (y :: ·)
    | none => none

def compOpt : Option Operand → Option (Option OD)
  | none => some none
  | some x => (compOD x).map some

section
variable (P : Program)

/-- A type: is it a struct or an array, and how many cells has it? -/
def tyOf (t : TypeId) : Option (Bool × Nat) :=
  match P.underlying t, P.info? t with
  | some (.struct _), some i => some (true, i.size)
  | some (.array _ _), some i => some (true, i.size)
  | some _, some i => some (false, i.size)
  | _, _ => none

def zeroOf (t : TypeId) : Option (List SV) :=
  match P.info? t with
  | some i => i.zero.bind fun z => absL z.cells.toList
  | none => none

def elemOfS (t : TypeId) : Option TypeId :=
  match P.underlying t with
  | some (.slice e) => some e
  | _ => none

def fieldOf (s : TypeId) (f : Nat) : Option Field :=
  match P.underlying s with
  | some (.struct fs) => fs[f]?
  | _ => none

/-- A struct's parts: where, how many cells, which. -/
def compParts (place : Nat → Option (Nat × Nat)) : List (Nat × Operand) → Option (List (Nat × Nat × OD))
  | [] => some []
  | (i, x) :: r =>
    match place i, compOD x with
    | some (o, n), some y => (compParts place r).map ((o, n, y) :: ·)
    | _, _ => none

/-- Where a struct's fields lie, and how many cells each has. -/
def placesOf (t : TypeId) : Option (List (Nat × Nat)) :=
  match P.underlying t with
  | some (.struct fields) => fields.toList.mapM (fun f => (P.info? f.type).map fun i => (f.offset, i.size))
  | _ => none

def isStr (t : TypeId) : Bool := P.underlying t matches some .string

/-- A map's elements' type, if its keys are texts or whole numbers. -/
def mapOf (t : TypeId) : Option (Bool × TypeId) :=
  match P.underlying t with
  | some (.map k e) =>
    match P.underlying k with
    | some (.int _) => some (false, e)
    | some .string => some (true, e)
    | _ => none
  | _ => none

/-- A type's zero, if it is one cell. -/
def zeroS (t : TypeId) : Option SV := ((P.info? t).bind (·.zero)).bind absS

/-- The places of a struct's fields that '==' looks at, and their kinds: whole numbers, bools, strings alone. -/
def eqPlaces : List Field → Option (List (Nat × Nat))
  | [] => some []
  | f :: r =>
    if f.name = "_" then none
    else match P.underlying f.type with
      | some (.int _) => (eqPlaces r).map ((f.offset, 0) :: ·)
      | some .bool => (eqPlaces r).map ((f.offset, 1) :: ·)
      | some .string => (eqPlaces r).map ((f.offset, 2) :: ·)
      | _ => none

def compBin (op : BinOp) (t : TypeId) (x y : OD) : Option EO :=
  match op with
  | .eql | .neq =>
    let neq := op = .neq
    match P.underlying t with
    | some .bool => some (.eqb neq x y)
    | some (.pointer _) => some (.eqp neq x y)
    | some (.slice _) => some (.eqn neq x y)
    | some (.struct fs) =>
      if P.eqGuardType P.depth t then none
      else if P.stoodInHeld t then none
      else (eqPlaces P fs.toList).map fun l => .eqs neq l x y
    | some (.int _) | some .string | some (.float _) | some (.complex _) => some (.bin op x y)
    | _ => none
  | _ => some (.bin op x y)

def isNum0 : Operand → Bool
  | .const (.int _ 0) => true
  | _ => false

def sameOp : Operand → Operand → Bool
  | .tmp a, .tmp b => a == b
  | .const (.int .i64 a), .const (.int .i64 b) => a == b
  | _, _ => false

/-- May a function be called: it has a body, and is no part of the model. -/
def callable (f : Nat) : Bool :=
  match P.funcs[f]? with
  | some fn => fn.name != "runtime.NumGoroutine" && fn.body.isSome
  | none => false

def compBuiltin (b : Builtin) (ts : Array TypeId) (args : List OD) : Option EO :=
  match b, args with
  | .len, [x] =>
    match (ts[0]?).bind P.underlying with
    | some .string => some (.slen x)
    | some (.slice _) => some (.len x)
    | some (.map _ _) => some (.mlen x)
    | _ => none
  | .append, [x, y] =>
    match (ts[0]?).bind (elemOfS P), (ts[1]?).bind P.underlying with
    | some e, some (.slice e') => if e' = e then (P.info? e).bind fun i => if 0 < i.size ∧ 0 < i.bytes ∧ i.zero.any (fun u => u.cells.size == i.size) ∧ ts.size = 2 then some (.app e i.size i.bytes x y) else none else none
    | some e, some .string => (P.info? e).bind fun i => if i.size = 1 ∧ 0 < i.bytes ∧ i.zero.any (fun u => u.cells.size == i.size) ∧ ts.size = 2 then some (.apps e i.bytes x y) else none
    | _, _ => none
  | .copy, [x, y] =>
    match (ts[0]?).bind (elemOfS P), (ts[1]?).bind P.underlying with
    | some e, some (.slice e') => if e' = e then (P.info? e).bind fun i => if 0 < i.size then some (.copy e i.size x y) else none else none
    | _, _ => none
  | .clear, [x] =>
    match (ts[0]?).bind (elemOfS P) with
    | some e => (P.info? e).bind fun i => (zeroOf P e).bind fun z => if 0 < i.size then if z.length = i.size then some (.clr e z x) else none else none
    | none => none
  | .min, x :: r => some (.mn x r)
  | .max, x :: r => some (.mx x r)
  | .real, [x] => some (.re x)
  | .imag, [x] => some (.im x)
  | .complex, [x, y] => some (.cplx x y)
  | _, _ => none

def compCall (c : Call) : Option EO :=
  match c.callee with
  | .builtin b => (compODs c.args.toList).bind (compBuiltin P b c.argTypes)
  | .value (.func f) => if callable P f then (compODs c.args.toList).map (.call f) else none
  | .value (.tmp t) => (compODs c.args.toList).map (.callv (.t t))
  | _ => none

def compOp (ty : TypeId) : Op → Option EO
  | .move x => (compOD x).map .mov
  | .assign x => (compOD x).map .mov
  | .pick c a b =>
    match compOD c, compOD a, compOD b with
    | some c, some a, some b => some (.pick c a b)
    | _, _, _ => none
  | .alloc t =>
    match tyOf P t, zeroOf P t with
    | some (true, n), some z => if 0 < n then some (.new t n (.c (.agg z))) else none
    | some (false, 1), some [v] => some (.new t 1 (.c (.s v)))
    | _, _ => none
  | .box t x =>
    match tyOf P t, compOD x with
    | some (_, n), some y => if 0 < n then some (.new t n y) else none
    | _, _ => none
  | .build t parts =>
    match zeroOf P t, placesOf P t with
    | some z, some pl => (compParts (pl.toArray[·]?) parts.toList).map (.build z)
    | _, _ => none
  | .buildSlice t n parts =>
    match elemOfS P t with
    | some e =>
      match P.info? e, zeroOf P e with
      | some i, some z =>
        if n * i.size ≤ 16777216 then if 0 < i.size then if z.length = i.size then
          (compParts (fun j => some (j * i.size, i.size)) parts.toList).map (.bsl e n z) else none else none else none
      | _, _ => none
    | none => none
  | .load t a =>
    match tyOf P t, compOD a with
    | some (g, n), some y => some (.load g n y)
    | _, _ => none
  | .store t a x =>
    match tyOf P t, compOD a, compOD x with
    | some (_, n), some y, some z => some (.store n y z)
    | _, _, _ => none
  | .nilCheck x => if P.underlying ty matches some (.func _ _ _) then (compOD x).map .nilf else (compOD x).map .nilc
  | .binOp op t x y _ =>
    match compOD x, compOD y with
    | some a, some b => compBin P op t a b
    | _, _ => none
  | .unOp op _ x => (compOD x).map (.un op)
  | .convert src dst x =>
    match compOD x with
    | some y =>
      match P.underlying src, P.underlying dst with
      | some (.int _), some (.int k) => some (.toi k y)
      | some (.int _), some (.float k) => some (.itof k y)
      | some (.float _), some (.int k) => some (.ftoi k y)
      | some (.slice e), some .string => if P.underlying e matches some (.int .u8) then (P.info? e).bind fun i => if i.size = 1 then some (.b2s e y) else none else none
      | some .string, some (.slice e) => if P.underlying e matches some (.int .u8) then (P.info? e).bind fun i => if i.size = 1 then some (.s2b e y) else none else none
      | _, _ => none
    | none => none
  | .makeInterface t x =>
    match P.underlying t, compOD x with
    | some (.interface _), _ => none
    | some _, some y => some (.mki t y)
    | _, _ => none
  | .makeFunc (.func f) first caps =>
    if callable P f then
      match compODs first.toList, compODs caps.toList with
      | some a, some b => some (.mkf f a b)
      | _, _ => none
    else none
  | .makeSlice t l c =>
    match elemOfS P t, compOD l with
    | some e, some y =>
      match P.info? e, zeroOf P e with
      | some i, some z => if sameOp l c then if 0 < i.size ∧ 0 < i.bytes then if z.length = i.size then some (.mks e i.bytes z y) else none else none else none
      | _, _ => none
    | _, _ => none
  | .slice t x lo hi mx =>
    match mx with
    | some m =>
      match elemOfS P t, compOD x, lo, hi with
      | some e, some y, none, some u => if isNum0 u && isNum0 m && (P.info? e).isSome then some (.sli0 y) else none
      | _, _, _, _ => none
    | none =>
      match compOD x, compOpt lo, compOpt hi with
      | some y, some a, some b =>
        if isStr P t then some (.subs y a b)
        else match elemOfS P t with
          | some e => (P.info? e).bind fun i => if 0 < i.size then some (.sli e i.size y a b) else none
          | none => none
      | _, _, _ => none
  | .fieldAddr s x f =>
    match fieldOf P s f, compOD x with
    | some g, some y => (P.info? g.type).bind fun i => if 0 < i.size then some (.fad g.offset y) else none
    | _, _ => none
  | .field s x f =>
    match fieldOf P s f, compOD x with
    | some g, some y => (tyOf P g.type).map fun p => .fld p.1 g.offset p.2 y
    | _, _ => none
  | .indexAddr t x i =>
    match elemOfS P t, compOD x, compOD i with
    | some e, some y, some j => (P.info? e).bind fun i => if 0 < i.size then some (.iad e i.size y j) else none
    | _, _, _ => none
  | .index t x i =>
    match isStr P t, compOD x, compOD i with
    | true, some y, some j => some (.idx y j)
    | _, _, _ => none
  | .extract x i => (compOD x).map fun y => .ext y i
  | .call c => compCall P c
  | .panic _ => some (.re (.c (.s .nilp)))
  | .range t x => if isStr P t then (compOD x).map .rng else none
  | .next x s => if s then (compOD x).map .nxt else none
  | .makeMap _ r => if r.isNone then some .mkm else none
  | .insert t m k x =>
    match mapOf P t, compOD m, compOD k, compOD x with
    | some (q, _), some m, some k, some x => some (.mput q m k x)
    | _, _, _, _ => none
  | .mapUpdate t m k x =>
    match mapOf P t, compOD m, compOD k, compOD x with
    | some (q, _), some m, some k, some x => some (.mput q m k x)
    | _, _, _, _ => none
  | .lookup t m k ok =>
    match mapOf P t, compOD m, compOD k with
    | some (q, e), some m, some k =>
      match zeroS P e with
      | some z => if nlS z then some (.mget q ok z m k) else none
      | none => none
    | _, _, _ => none
  | _ => none

/-- Is an operation a call of a function? -/
def callOp : Op → Bool
  | .call c => match c.callee with
    | .builtin _ => false
    | _ => true
  | _ => false

def compG (N : Nat) (ops : Array Oper) (o : Oper) : Option EG :=
  if o.dst.all (fun d => decide (d < N)) then
    match compOp P o.type o.op with
    | some e =>
      if isCall e && !callOp o.op then none else
      match o.guard with
      | none => some ⟨o.dst, e, none⟩
      | some (j, b) =>
        match (ops[j]?).bind (·.dst) with
        | some s => some ⟨o.dst, e, some (s, b)⟩
        | none => none
    | none => none
  else none

def compL (N : Nat) (ops : Array Oper) : List Oper → Option (List EG)
  | [] => some []
  | o :: r =>
    match compG P N ops o with
    | some g => (compL N ops r).map (g :: ·)
    | none => none
end

/-- Operations that make one object out of their frame alone. -/
def paE : EO → Bool
  | .new _ _ _ => true
  | .mks _ _ _ _ => true
  | .bsl _ _ _ _ => true
  | .mkf _ _ _ => true
  | .mki _ _ => true
  | _ => false

def nlV : FV → Bool
  | .s v => nlS v
  | .agg l => l.all nlS
  | .tup l => l.isEmpty
def nlD : OD → Bool
  | .t _ => true
  | .c v => nlV v
def nlO : Option OD → Bool
  | none => true
  | some x => nlD x
def nlE : EO → Bool
  | .mov x | .nilc x | .nilf x | .un _ x | .toi _ x | .itof _ x | .ftoi _ x | .b2s _ x | .mki _ x | .sli0 x | .fad _ x | .fld _ _ _ x | .ext x _ | .len x | .slen x | .re x | .im x => nlD x
  | .load _ _ x => nlD x
  | .new _ _ x => nlD x
  | .mks _ _ z x => z.all nlS && nlD x
  | .pick c a b => nlD c && nlD a && nlD b
  | .build z ps => z.all nlS && ps.all fun p => nlD p.2.2
  | .bsl _ _ z ps => z.all nlS && ps.all fun p => nlD p.2.2
  | .bin _ x y | .eqb _ x y | .eqp _ x y | .eqn _ x y | .eqs _ _ x y | .cplx x y => nlD x && nlD y
  | .mkf _ a b => a.all nlD && b.all nlD
  | .sli _ _ x a b => nlD x && nlO a && nlO b
  | .subs x a b => nlD x && nlO a && nlO b
  | .iad _ _ x i => nlD x && nlD i
  | .idx x i => nlD x && nlD i
  | .mn x l | .mx x l => nlD x && l.all nlD
  | .mlen x => nlD x
  | .mget _ _ z m k => nlS z && nlD m && nlD k
  | _ => true

/-- The order in which a region's operations are gone through: the text's; but if an operation that makes one object comes ahead in the text of one that may change memory and need not, then each such operation as late as may be. -/
def ordOf (ops : Array Oper) (l : List EG) : List Nat :=
  let b := Region.before ops
  let n := l.length
  let pa := fun i => match l[i]? with | some g => paE g.op | none => false
  let ch := fun i => match l[i]? with | some g => changesE g.op && !paE g.op | none => false
  if (List.range n).any fun p => pa p && (List.range n).any fun j => decide (p < j) && ch j && !((b.getD j 0).testBit p) then
    let d := (List.range n).foldl (fun done i => if !ch i || done.contains i then done else done ++ ((List.range i).filter fun j => (b.getD i 0).testBit j && !done.contains j) ++ [i]) []
    d ++ (List.range n).filter fun i => !d.contains i
  else List.range n

/-- The pairs of operations (one that looks, one that may change) whose order is open. -/
def pairsOf (ops : Array Oper) (ord : List Nat) (l : List EG) : List (Nat × Nat) :=
  let b := Region.before ops
  (List.range l.length).flatMap fun i =>
    match l[i]? with
    | some g =>
      if looksE g.op && !paE g.op then (List.range l.length).filterMap fun j =>
        match l[j]? with
        | some g' => if changesE g'.op && i != j && !((b.getD (ord.getD j 0) 0).testBit (ord.getD i 0)) && !((b.getD (ord.getD i 0) 0).testBit (ord.getD j 0)) && !(paE g'.op && decide (i < j)) then some (i, j) else none
        | none => none
      else []
    | none => []

def permG (ord : List Nat) (l : List EG) : List EG := ord.map fun k => l.getD k ⟨none, .re (.c (.s .nilp)), none⟩

/-- May a region of an open order be gone through in this one: every operation comes ahead of those that come after it, each writes a slot of its own, and whoever looks at such a slot comes after, or ahead. -/
def drawOk (ops : Array Oper) (ord : List Nat) (l : List EG) : Bool :=
  let b := Region.before ops
  ord.length == ops.size && (List.range ops.size).all (fun k => ord.contains k) && (ord.all fun k => decide (k < ops.size)) &&
  ((List.range l.length).all fun i =>
    (match ops[ord.getD i 0]? with
     | some o => o.after.all fun e => !Region.binds .any e || (ord.take i).contains e.on
     | none => false) &&
    match l[i]? with
    | some g =>
      nlE g.op &&
      ((List.range l.length).all fun j =>
        (i == j || ord.getD i 0 != ord.getD j 0) &&
        match l[j]? with
        | some g' =>
          match g'.dst with
          | some d => (i == j || g.dst != some d) && (!(slotsG g).contains d || i == j || (b.getD (ord.getD i 0) 0).testBit (ord.getD j 0) || (b.getD (ord.getD j 0) 0).testBit (ord.getD i 0))
          | none => true
        | none => false)
    | none => false)

def takeHint (hs : List (List Nat)) : List Nat × List (List Nat) :=
  match hs with
  | [] => ([], [])
  | k :: r => (k, r)

section
variable (P : Program)
/-- The code, and what of the hints (which slots are kept at a loop's head, at an exit, at the end) is left. -/
def compC (N : Nat) : Code → List (List Nat) → Option (EC × List (List Nat))
  | .skip, hs => some (.skip, hs)
  | .region _ ops false, hs => (compL P N ops ops.toList).map fun l => (.ops l (takeHint hs).1, (takeHint hs).2)
  | .region _ ops true, hs =>
    match compL P N ops ops.toList with
    | some l =>
      if drawOk ops (ordOf ops l) (permG (ordOf ops l) l) then some (.draw (permG (ordOf ops l) l) (pairsOf ops (ordOf ops l) (permG (ordOf ops l) l)) (takeHint hs).1, (takeHint hs).2) else none
    | none => none
  | .seq a b, hs =>
    match compC N a hs with
    | some (x, hs') => (compC N b hs').map fun y => (.seq x y.1, y.2)
    | none => none
  | .cond c a b, hs =>
    match compOD c, compC N a hs with
    | some x, some (y, hs') => (compC N b hs').map fun z => (.cond x y z.1, z.2)
    | _, _ => none
  | .block id b, hs => (compC N b hs).map fun x => (.block id x.1, x.2)
  | .loop b, hs => (compC N b (takeHint hs).2).map fun x => (.loop (takeHint hs).1 x.1, x.2)
  | .exit id, hs => some (.exit id (takeHint hs).1, (takeHint hs).2)
  | .ret, hs => some (.ret (takeHint hs).1, (takeHint hs).2)
  | .label l, hs => some (.label l, hs)
  | .goto l, hs => some (.goto l (takeHint hs).1, (takeHint hs).2)
  | .scope b, hs => (compC N b hs).map fun x => (.scope x.1, x.2)
  | _, _ => none

def compR : ResultVar → Option ER
  | .tmp t => some (.tmp t)
  | .cell c t => (tyOf P t).map fun p => .cell c p.1 p.2

def compRs : List ResultVar → Option (List ER)
  | [] => some []
  | r :: l =>
    match compR P r with
    | some x => (compRs l).map (x :: ·)
    | none => none

/-- A function: so many slots are there for its arguments. -/
def compF (f : Nat) (hs : List (List Nat)) : Option EF :=
  match P.funcs[f]? with
  | some fn =>
    match fn.body with
    | some c =>
      if fn.name != "runtime.NumGoroutine" then
        match compC P fn.ntmps c hs, compRs P fn.results.toList with
        | some x, some r => some ⟨fn.ntmps, x.1, r⟩
        | _, _ => none
      else none
    | none => none
  | none => none
end

end Go.Proofs.YtiljgimcipdadaaGreatDoor.Ev

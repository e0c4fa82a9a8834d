import Derived.RowKit
import Derived.Deep.MidRow
import Derived.Deep.AppendSrc
import Derived.Deep.Upon
import Derived.Deep.Draws
import Derived.Laws.NewBlocks
import Derived.Laws.World
import Derived.Lib.EndianMore
import Derived.Below
import Derived.Orders
import Derived.LoopN
import Derived.Laws.StructEq
import Derived.Laws.BytesString
import Derived.MapKept
import Derived.Laws.RangeString
import Derived.Lib.ConvBytes
import Derived.Laws.Cells
set_option linter.unusedVariables false
set_option linter.unusedSimpArgs false
set_option linter.unusedSectionVars false
namespace Go.Proofs.YtdmcfjkgopmlgaaGreatDoor.Ev
open Go
abbrev zuu:= @Option.some.injEq
abbrev zuv:= @Nat.le_of_ble_eq_true
abbrev zuw:= @Option.some.inj
abbrev zux:= @Prod.mk.injEq
abbrev zuy:= @Option.map_eq_some_iff
abbrev zuz:= @List.getElem?_eq_some_iff
abbrev zuA:= @List.getElem?_append_left
abbrev zuB:= @Nat.le_refl
abbrev zuC:= @List.getElem?_append_right
abbrev zuD:= @List.length_append
abbrev zuE:= @Bool.and_eq_true
abbrev zuF:= @if_pos
abbrev zuG:= @List.getElem?_set_ne
abbrev zuH:= @if_neg
abbrev zuI:= @List.length_singleton
abbrev zuJ:= @List.getElem?_eq_getElem
abbrev zuK:= @decide_eq_true_eq
abbrev zuL:= @Result.andThen_ok
abbrev zuM:= @List.mem_append
abbrev zuN:= @Option.bind_eq_some_iff
abbrev zuO:= @List.mem_cons
abbrev zuP:= @Prod.mk.inj
abbrev zuQ:= @List.getElem?_set_self
abbrev zuR:= @List.length_take
abbrev zuS:= @List.map_cons
abbrev zuT:= @List.take_succ_eq_append_getElem
abbrev zuU:= @List.take_succ_cons
abbrev zuV:= @List.all_eq_true
abbrev zuW:= @Sem.run_bind
abbrev zuX:= @List.append_assoc
abbrev zuY:= @List.length_map
abbrev zuZ:= @Option.map_some
abbrev zu0:= @Bool.false_eq_true
abbrev zu1:= @List.pairwise_cons
abbrev zu2:= @List.drop_zero
abbrev zu3:= @List.take_length
abbrev zu4:= @List.drop_succ_cons
abbrev zu5:= @List.getElem_mem
abbrev zu6:= @List.append_nil
abbrev zu7:= @List.take_append_drop
abbrev zu8:= @List.getElem?_take
abbrev zu9:= @List.mem_singleton
abbrev zva:= @List.mem_append_left
abbrev zvb:= @Sem.run_pure
abbrev zvc:= @List.drop_eq_getElem_cons
abbrev zvd:= @Nat.mul_le_mul_right
abbrev zve:= @Nat.zero_add
abbrev zvf:= @List.length_set
abbrev zvg:= @List.map_append
abbrev zvh:= @List.mem_of_getElem?
abbrev zvi:= @List.flatMap_append
abbrev zvj:= @List.map_congr_left
abbrev zvk:= @List.length_cons
abbrev zvl:= @List.getElem?_cons_zero
abbrev zvm:= @List.mem_flatMap
abbrev zvn:= @Nat.min_eq_left
abbrev zvo:= @Nat.lt_of_lt_of_le
abbrev zvp:= @Nat.le_trans
abbrev zvq:= @List.take_of_length_le
abbrev zvr:= @Nat.add_mul
abbrev zvs:= @Nat.add_sub_cancel_left
abbrev zvt:= @List.take_zero
abbrev zvu:= @Array.getElem?_eq_getElem
abbrev zvv:= @List.getElem?_map
abbrev zvw:= @List.mem_append_right
abbrev zvx:= @decide_eq_false_iff_not
abbrev zvy:= @Nat.sub_self
abbrev zvz:= @decide_eq_true
abbrev zvA:= @List.nodup_append
abbrev zvB:= @List.mem_cons_of_mem
abbrev zvC:= @Array.getD_eq_getD_getElem?
abbrev zvD:= @List.mem_filter
abbrev zvE:= @List.getElem?_drop
abbrev zvF:= @List.flatMap_cons
abbrev zvG:= @Bool.or_eq_true
abbrev zvH:= @List.getElem?_eq_none
abbrev zvI:= @List.getElem?_cons_succ
abbrev zvJ:= @List.mem_of_mem_take
abbrev zvK:= @List.set_append_right
abbrev zvL:= @List.length_drop
abbrev zvM:= @ByteArray.toList_eq
abbrev zvN:= @List.mem_cons_self
abbrev zvO:= @List.eq_nil_of_length_eq_zero
abbrev zvP:= @Nat.zero_mul
abbrev zvQ:= @List.mem_map
abbrev zvR:= @List.mem_of_find?_eq_some
abbrev zvS:= @List.ext_getElem?
abbrev zvT:= @List.not_mem_nil
abbrev zvU:= @decide_eq_false
abbrev zvV:= @Option.isSome_iff_exists
abbrev zvW:= @Int.tdiv_eq_ediv_of_nonneg
abbrev zvX:= @List.cons_append
abbrev zvY:= @List.length_nil
abbrev zvZ:= @List.take_left'
abbrev zv0:= @List.length_filter_le
abbrev zv1:= @Nat.add_zero
abbrev zv2:= @Array.getElem?_eq_some_iff
abbrev zv3:= @List.size_toArray
abbrev zv4:= @beq_iff_eq
abbrev zv5:= @List.getElem_cons_succ
abbrev zv6:= @List.all_cons
abbrev zv7:= @Nat.add_assoc
abbrev zv8:= @Array.getElem?_setIfInBounds_self_of_lt
abbrev zv9:= @List.filter_sublist
abbrev zwa:= @List.map_nil
abbrev zwb:= @List.nil_append
abbrev zwc:= @Nat.lt_or_ge
abbrev zwd:= @List.mem_range
abbrev zwe:= @List.mem_of_mem_drop
abbrev zwf:= @Nat.zero_le
abbrev zwg:= @Array.eq_empty_of_size_eq_zero
abbrev zwh:= @List.sum_cons
abbrev zwi:= @Option.bind_some
abbrev zwj:= @List.contains_iff_mem
abbrev zwk:= @Int.natCast_add
abbrev zwl:= @List.any_eq_true
abbrev zwm:= @Classical.not_and_iff_not_or_not
abbrev zwn:= @List.getD_eq_getElem?_getD
abbrev zwo:= @Array.getElem?_setIfInBounds_ne
abbrev zwp:= @List.foldl_cons
abbrev zwq:= @Nat.two_pow_pos
abbrev zwr:= @List.filter_append
abbrev zws:= @List.find?_eq_none
abbrev zwt:= @List.getElem_append_left
abbrev zwu:= @Int.mul_le_mul_of_nonneg_left
abbrev zwv:= @List.filter_cons
abbrev zww:= @Nat.lt_succ_self
abbrev zwx:= @Option.getD_some
abbrev zwy:= @List.take_take
abbrev zwz:= @Nat.pow_add
abbrev zwA:= @List.drop_eq_nil_of_le
abbrev zwB:= @Array.getElem?_append_left
abbrev zwC:= @List.flatMap_nil
abbrev zwD:= @Nat.le_add_right
abbrev zwE:= @List.map_map
abbrev zwF:= @List.mem_iff_getElem?
abbrev zwG:= @Nat.succ_mul
abbrev zwH:= @Array.size_push
abbrev zwI:= @Bool.eq_false_iff
abbrev zwJ:= @Bool.not_eq_true'
abbrev zwK:= @List.pairwise_map
abbrev zwL:= @List.sum_append
abbrev zwM:= @List.getElem!_eq_getElem?_getD
abbrev zwN:= @List.getElem_of_mem
abbrev zwO:= @List.map_take
abbrev zwP:= @List.mem_map_of_mem
abbrev zwQ:= @List.take_append_of_le_length
abbrev zwR:= @List.drop_drop
abbrev zwS:= @List.drop_take
abbrev zwT:= @Array.getElem?_setIfInBounds
abbrev zwU:= @Bool.and_eq_false_iff
abbrev zwV:= @Int.mul_add
abbrev zwW:= @Int.zero_add
abbrev zwX:= @List.getElem?_toArray
abbrev zwY:= @List.set_getElem_self
abbrev zwZ:= @Nat.le_succ
abbrev zw0:= @Nat.mul_lt_mul_of_pos_right
abbrev zw1:= @Array.size_append
abbrev zw2:= @Bool.and_true
abbrev zw3:= @List.flatten_cons
abbrev zw4:= @List.take_add_one
abbrev zw5:= @List.dropLast_concat
abbrev zw6:= @Int.mul_nonneg
abbrev zw7:= @List.getElem?_eq_none_iff
abbrev zw8:= @List.getLast?_eq_getElem?
abbrev zw9:= @List.getLast?_eq_some_iff
abbrev zxa:= @Option.isNone_iff_eq_none
abbrev zxb:= @List.map_flatMap
abbrev zxc:= @Array.length_toList
abbrev zxd:= @Nat.mul_le_mul_left
abbrev zxe:= @Array.ext'
abbrev zxf:= @Bool.eq_iff_iff
abbrev zxg:= @Int.sub_eq_add_neg
abbrev zxh:= @List.find?_cons
abbrev zxi:= @Nat.mul_assoc
abbrev zxj:= @Nat.mul_ne_zero
abbrev zxk:= @Nat.pos_of_ne_zero
abbrev zxl:= @List.zipWith_cons_cons
abbrev zxm:= @List.all_eq_false
abbrev zxn:= @List.find?_append
abbrev zxo:= @Nat.lt_trichotomy
abbrev zxp:= @Int.mul_le_mul_of_nonneg_right
abbrev zxq:= @Int.mul_tdiv_add_tmod
abbrev zxr:= @List.drop_append_of_le_length
abbrev zxs:= @List.getElem_map
abbrev zxt:= @List.mem_flatten
abbrev zxu:= @List.mem_of_getLast?
abbrev zxv:= @List.pairwise_append
abbrev zxw:= @List.set_append_left
abbrev zxx:= @Bool.true_and
abbrev zxy:= @Int.toNat_of_nonneg
abbrev zxz:= @List.replicate_succ
abbrev zxA:= @Array.foldl_toList
abbrev zxB:= @Int.lt_tmod_of_pos
abbrev zxC:= @Int.natCast_nonneg
abbrev zxD:= @Int.tmod_lt_of_pos
abbrev zxE:= @List.sum_singleton
abbrev zxF:= @Nat.add_sub_cancel
abbrev zxG:= @Option.isSome_none
abbrev zxH:= @Int.toNat_natCast
abbrev zxI:= @List.length_range
abbrev zxJ:= @Int.add_assoc
abbrev zxK:= @Nat.mul_one
abbrev zxL:= @Array.toList_map
abbrev zxM:= @Bool.not_eq_true
abbrev zxN:= @List.drop_length
abbrev zxO:= @Nat.log2_self_le
abbrev zxP:= @Nat.lt_log2_self
abbrev zxQ:= @Nat.mod_eq_of_lt
abbrev zxR:= @Int.add_zero
abbrev zxS:= @List.range_succ
abbrev zxT:= @Nat.add_comm
abbrev zxU:= @Nat.succ_pos
abbrev zxV:= @Prod.ext
theorem pe{a:Prop}:a=a:=propext ⟨fun h=>h,fun h=>h⟩
inductive SV where
 |bool (b:Bool)
 |int (k:IntKind) (n:Int)
 |flt (k:FloatKind) (b:Nat)
 |cpl (k:FloatKind) (re im:Nat)
 |str (s:ByteArray)
 |nilp
 |ptr (i o:Nat)
 |nils
 |sl (i p o n:Nat)
 |sl0 (i p o:Nat)
 |nilm
 |mp (i:Nat)
 |nilf
 |fn (f:Nat)
 |cl (i:Nat)
 |nili
 |iv (i:Nat)
inductive FV where
 |s (v:SV)
 |agg (l:List SV)
 |tup (l:List FV)
inductive LO where
 |own (t:Nat) (vs:List SV)
 |ro (t:Nat) (vs:List SV)
 |dead
 |clo (f:Nat) (first caps:List FV)
 |ifc (t:Nat) (v:FV)
 |map (es:List (SV×SV))
 |iter (s:ByteArray) (pos:Nat)
abbrev LH:=List LO
inductive OD where
 |t (n:Nat)
 |c (v:FV)
inductive EO where
 |mov (x:OD)
 |nilc (x:OD)
 |nilf (x:OD)
 |pick (c a b:OD)
 |load (agg:Bool) (n:Nat) (a:OD)
 |store (n:Nat) (a x:OD)
 |new (t n:Nat) (x:OD)
 |build (zero:List SV) (parts:List (Nat×Nat×OD))
 |bsl (t:Nat) (n:Nat) (zero:List SV) (parts:List (Nat×Nat×OD))
 |bin (op:BinOp) (x y:OD)
 |eqb (neq:Bool) (x y:OD)
 |eqp (neq:Bool) (x y:OD)
 |eqn (neq:Bool) (x y:OD)
 |eqs (neq:Bool) (offs:List (Nat×Nat)) (x y:OD)
 |un (op:UnOp) (x:OD)
 |toi (k:IntKind) (x:OD)
 |itof (k:FloatKind) (x:OD)
 |ftoi (k:IntKind) (x:OD)
 |b2s (t:Nat) (x:OD)
 |mkf (f:Nat) (first caps:List OD)
 |mki (t:Nat) (x:OD)
 |mks (t y:Nat) (zero:List SV) (l:OD)
 |sli (t z:Nat) (x:OD) (lo hi:Option OD)
 |sli0 (x:OD)
 |subs (x:OD) (lo hi:Option OD)
 |fad (off:Nat) (x:OD)
 |fld (agg:Bool) (off n:Nat) (x:OD)
 |iad (t z:Nat) (x i:OD)
 |idx (x i:OD)
 |ext (x:OD) (i:Nat)
 |call (f:Nat) (args:List OD)
 |callv (x:OD) (args:List OD)
 |len (x:OD)
 |slen (x:OD)
 |app (t z y:Nat) (x y':OD)
 |apps (t y:Nat) (x s:OD)
 |appz (t y:Nat) (zero:List SV) (x n:OD)
 |copy (t z:Nat) (x y:OD)
 |clr (t:Nat) (zero:List SV) (x:OD)
 |mn (x:OD) (l:List OD)
 |mx (x:OD) (l:List OD)
 |re (x:OD)
 |im (x:OD)
 |cplx (x y:OD)
 |rng (x:OD)
 |nxt (x:OD)
 |mkm
 |mput (q:Bool) (m k x:OD)
 |mget (q ok:Bool) (zero:SV) (m k:OD)
 |mlen (x:OD)
 |s2b (t:Nat) (x:OD)
structure EG where
 dst:Option Nat
 op:EO
 guard:Option (Nat×Bool)
inductive EC where
 |skip
 |ops (l:List EG) (keep:List Nat)
 |draw (l:List EG) (pairs:List (Nat×Nat)) (keep:List Nat)
 |seq (a b:EC)
 |cond (c:OD) (a b:EC)
 |block (id:Nat) (b:EC)
 |loop (keep:List Nat) (b:EC)
 |exit (id:Nat) (keep:List Nat)
 |ret (keep:List Nat)
 |scope (b:EC)
 |ext (n m:Nat) (g:List FV→LH→Option (List FV×LH))
 |label (l:Nat)
 |goto (l:Nat) (keep:List Nat)
inductive ER where
 |tmp (t:Nat)
 |cell (t:Nat) (agg:Bool) (n:Nat)
structure EF where
 slots:Nat
 body:EC
 res:List ER
abbrev Fr:=List (Nat×Option FV)
def yi:Fr→Nat→Option FV
 |[],_=>none
 |(m,v)::r,n=>if n=m then v else yi r n
def qs(fr:Fr)(d:Option Nat)(v:Option FV):Fr:=
 match d with
 |some n=>(n,v)::fr
 |none=>fr
def zk(keep:List Nat)(fr:Fr):Fr:=keep.map fun n=>(n,yi fr n)
def odE(fr:Fr):OD→Option FV
 | .t n=>yi fr n
 | .c v=>some v
def odS(fr:Fr)(x:OD):Option SV:=
 match odE fr x with
 |some (.s v)=>some v
 |_=>none
def odL(fr:Fr):List OD→Option (List FV)
 |[]=>some []
 |x::r=>
  match odE fr x with
  |some v=>(odL fr r).map (v:: ·)
  |none=>none
def jz:FV→Option (List SV)
 | .s v=>some [v]
 | .agg l=>some l
 | .tup _=>none
def Yf:List FV→Bool
 |[]=>true
 | .tup _::_=>false
 | .s _::r=>Yf r
 | .agg _::r=>Yf r
def cellsOf(h:LH)(i:Nat):Option (Nat×List SV):=
 match h[i]? with
 |some (.own t vs)=>some (t,vs)
 |some (.ro t vs)=>some (t,vs)
 |_=>none
def qj:List SV→Nat→List SV→List SV
 |vs,_,[]=>vs
 |vs,o,c::r=>qj (vs.set o c) (o+1) r
def ZK(fr:Fr):List SV→List (Nat×Nat×OD)→Option (List SV)
 |cs,[]=>some cs
 |cs,(o,n,x)::r=>
  match(odE fr x).bind jz with
  |some l=>if l.length=n then if o+n≤cs.length then ZK fr (qj cs o l) r else none else none
  |none=>none
def zdp(op:BinOp)(k:IntKind)(a b:Int):Option SV:=
 match op with
 | .add=>some (.int k (k.wrap (a+b)))
 | .sub=>some (.int k (k.wrap (a-b)))
 | .mul=>some (.int k (k.wrap (a*b)))
 | .quo=>if b=0 then none else some (.int k (k.wrap (a.tdiv b)))
 | .rem=>if b=0 then none else some (.int k (a.tmod b))
 | .eql=>some (.bool (a==b))
 | .neq=>some (.bool (a !=b))
 | .lss=>some (.bool (a<b))
 | .leq=>some (.bool (a≤b))
 | .gtr=>some (.bool (a >b))
 | .geq=>some (.bool (a≥b))
 | .and=>some (.int k (k.wrap (BitVec.ofInt k.bits a&&&BitVec.ofInt k.bits b).toNat))
 | .or=>some (.int k (k.wrap (BitVec.ofInt k.bits a|||BitVec.ofInt k.bits b).toNat))
 | .xor=>some (.int k (k.wrap (BitVec.ofInt k.bits a^^^BitVec.ofInt k.bits b).toNat))
 |_=>none
def zd6(op:BinOp)(a b:ByteArray):Option SV:=
 match op with
 | .add=>if((a.size+b.size:Nat):Int)≤9223372036854775807 then some (.str (a++b)) else none
 | .eql=>some (.bool (a.toList==b.toList))
 | .neq=>some (.bool (!(a.toList==b.toList)))
 | .lss=>some (.bool (Op.bytesLess a.toList b.toList))
 | .leq=>some (.bool (Op.bytesLess a.toList b.toList||a.toList==b.toList))
 | .gtr=>some (.bool (!(Op.bytesLess a.toList b.toList||a.toList==b.toList)))
 | .geq=>some (.bool (!(Op.bytesLess a.toList b.toList)))
 |_=>none
def zbV(op:BinOp)(a b c d:Nat):Option SV:=
 match op with
 | .add=>match FloatKind.f64.format.add a c,FloatKind.f64.format.add b d with
   |some x,some y=>some (.cpl .f64 x y)
   |_,_=>none
 | .eql=>some (.bool (FloatKind.f64.format.order a c==some .eq&&FloatKind.f64.format.order b d==some .eq))
 | .neq=>some (.bool (!(FloatKind.f64.format.order a c==some .eq&&FloatKind.f64.format.order b d==some .eq)))
 |_=>none
def zbY(op:BinOp)(a b:Nat):Option SV:=
 match op with
 | .eql=>some (.bool (FloatKind.f64.format.order a b==some .eq))
 | .neq=>some (.bool (FloatKind.f64.format.order a b !=some .eq))
 |_=>none
def zjL(op:BinOp)(k:IntKind)(a b:Int):Option SV:=
 if b<0 then none else
 match op with
 | .shl=>some (.int k (k.wrap (a*2^min b.toNat k.bits)))
 | .shr=>some (.int k (a.fdiv (2^min b.toNat k.bits)))
 |_=>none
def zcK(op:BinOp)(x y:SV):Option SV:=
 match x,y with
 | .int k a,.int k' b=>
   if op= .shl∨op= .shr then zjL op k a b else if k=k' then zdp op k a b else none
 | .str a,.str b=>zd6 op a b
 | .cpl .f64 a b,.cpl .f64 c d=>zbV op a b c d
 | .flt .f64 a,.flt .f64 b=>zbY op a b
 |_,_=>none
def zeg:SV→SV→Option Bool
 | .nilp,.nilp=>some true
 | .nilp,.ptr _ _=>some false
 | .ptr _ _,.nilp=>some false
 |_,_=>none
def ziW:SV→SV→Option Bool
 | .nils,.nils=>some true
 | .nils,.sl _ _ _ _=>some false
 | .sl _ _ _ _,.nils=>some false
 | .nils,.sl0 _ _ _=>some false
 | .sl0 _ _ _,.nils=>some false
 |_,_=>none
def Y7(neq b:Bool):FV:= .s (.bool (if neq then !b else b))
def YV:Nat→SV→SV→Option Bool
 |0,.int k a,.int k' b=>if k=k' then some (a==b) else none
 |1,.bool a,.bool b=>some (a==b)
 |2,.str a,.str b=>some (a==b)
 |_,_,_=>none
def jO(xs ys:List SV):List (Nat×Nat)→Option Bool
 |[]=>some true
 |(o,q)::r=>
  match xs[o]?,ys[o]? with
  |some x,some y=>
   match YV q x y with
   |some true=>jO xs ys r
   |some false=>some false
   |none=>none
  |_,_=>none
def unE(op:UnOp)(x:SV):Option SV:=
 match op,x with
 | .neg,.int k n=>some (.int k (k.wrap (0-n)))
 | .not,.bool b=>some (.bool !b)
 |_,_=>none
def zbr:SV→Option Nat
 | .nils=>some 0
 | .sl _ _ _ n=>some n
 | .sl0 _ _ _=>some 0
 |_=>none
def jW(h:LH)(t z:Nat):SV→Option (List SV)
 | .nils=>some []
 | .sl0 _ _ _=>some []
 | .sl _ _ _ 0=>some []
 | .sl i _ o n=>
   match cellsOf h i with
   |some (t',vs)=>if t'=t then if(o+n)*z≤vs.length then some ((vs.drop (o*z)).take (n*z)) else none else none
   |none=>none
 |_=>none
def yK(s:ByteArray):List SV:=s.data.toList.map fun b=>SV.int .u8 b.toNat
def ZF(h:LH)(t z y:Nat)(x:SV)(n:Nat)(new:List SV):Option (FV×LH):=
 if n=0 then
  match x with
  | .nils=>some (.s .nils,h)
  | .sl i p o m=>some (.s (.sl i p o m),h)
  | .sl0 i p o=>some (.s (.sl0 i p o),h)
  |_=>none
 else
  match x with
  | .nils| .sl0 _ _ _=>if n*y≤140737488355328 then some (.s (.sl h.length 0 0 n),h++[.own t new]) else none
  | .sl i _ o m=>
    match h[i]? with
    |some (.own t' vs)=>
     if t'=t then if(o+m)*z≤vs.length then if(m+n)*y≤140737488355328 then
      some (.s (.sl h.length 0 0 (m+n)),h.set i .dead++[.own t ((vs.drop (o*z)).take (m*z)++new)])
     else none else none else none
    |_=>none
  |_=>none
def rep(n:Nat)(zero:List SV):List SV:=(List.replicate n zero).flatten
def zbw(k:IntKind)(a:Int):List SV→Option SV
 |[]=>some (.int k a)
 | .int _ b::r=>zbw k (if b<a then b else a) r
 |_=>none
def zbu(k:IntKind)(a:Int):List SV→Option SV
 |[]=>some (.int k a)
 | .int _ b::r=>zbu k (if b >a then b else a) r
 |_=>none
def zcg(fr:Fr):List OD→Option (List SV)
 |[]=>some []
 |x::r=>
  match odS fr x with
  |some v=>(zcg fr r).map (v:: ·)
  |none=>none
def YT:List SV→Option (List UInt8)
 |[]=>some []
 | .int .u8 n::r=>(YT r).map (UInt8.ofNat n.toNat:: ·)
 |_=>none
def bound(fr:Fr)(d:Nat):Option OD→Option Nat
 |none=>some d
 |some x=>
  match odS fr x with
  |some (.int _ n)=>if 0≤n then some n.toNat else none
  |_=>none
def nlS:SV→Bool
 | .ptr _ _| .sl _ _ _ _| .sl0 _ _ _| .mp _| .cl _| .iv _=>false
 |_=>true
def zb2:SV→SV→Option Bool
 | .str a,.str b=>some (a==b)
 | .int k a,.int k' b=>if k=k' then some (a==b) else none
 |_,_=>none
def getM(k:SV):List (SV×SV)→Option (Option SV)
 |[]=>some none
 |e::r=>
  match zb2 k e.1 with
  |some true=>some (some e.2)
  |some false=>getM k r
  |none=>none
def zgp(k v:SV):List (SV×SV)→Option (List (SV×SV))
 |[]=>some [(k,v)]
 |e::r=>
  match zb2 k e.1 with
  |some true=>some ((k,v)::r)
  |some false=>(zgp k v r).map (e:: ·)
  |none=>none
def Jq(q:Bool):SV→Bool
 | .str _=>q
 | .int _ _=> !q
 |_=>false
def opE(fr:Fr)(h:LH):EO→Option (FV×LH)
 | .mov x=>(odE fr x).map (·,h)
 | .nilc x=>
   match odS fr x with
   |some (.ptr i o)=>some (.s (.ptr i o),h)
   |_=>none
 | .nilf x=>
   match odS fr x with
   |some (.cl i)=>
    match h[i]? with
    |some (.clo _ _ _)=>some (.s (.cl i),h)
    |_=>none
   |some (.fn f)=>some (.s (.fn f),h)
   |_=>none
 | .pick c a b=>
   match odS fr c,odE fr a,odE fr b with
   |some (.bool t),some x,some y=>some (if t then x else y,h)
   |_,_,_=>none
 | .load agg n a=>
   match odS fr a with
   |some (.ptr i o)=>
    match cellsOf h i with
    |some (_,vs)=>
     if agg then if o+n≤vs.length then some (.agg ((vs.drop o).take n),h) else none
     else match vs[o]? with
      |some v=>some (.s v,h)
      |none=>none
    |none=>none
   |_=>none
 | .store n a x=>
   match odS fr a,(odE fr x).bind jz with
   |some (.ptr i o),some l=>
    match h[i]? with
    |some (.own t vs)=>if l.length=n then if o+n≤vs.length then some (.tup [],h.set i (.own t (qj vs o l))) else none else none
    |_=>none
   |_,_=>none
 | .new t n x=>
   match(odE fr x).bind jz with
   |some l=>if l.length=n then some (.s (.ptr h.length 0),h++[.own t l]) else none
   |none=>none
 | .build zero parts=>(ZK fr zero parts).map (.agg ·,h)
 | .bsl t n zero parts=>(ZK fr (rep n zero) parts).map fun l=>(.s (.sl h.length 0 0 n),h++[.own t l])
 | .bin op x y=>
   match odS fr x,odS fr y with
   |some a,some b=>(zcK op a b).map (.s ·,h)
   |_,_=>none
 | .eqb neq x y=>
   match odS fr x,odS fr y with
   |some (.bool a),some (.bool b)=>some (Y7 neq (a==b),h)
   |_,_=>none
 | .eqp neq x y=>
   match odS fr x,odS fr y with
   |some a,some b=>(zeg a b).map fun t=>(Y7 neq t,h)
   |_,_=>none
 | .eqn neq x y=>
   match odS fr x,odS fr y with
   |some a,some b=>(ziW a b).map fun t=>(Y7 neq t,h)
   |_,_=>none
 | .eqs neq offs x y=>
   match odE fr x,odE fr y with
   |some (.agg xs),some (.agg ys)=>(jO xs ys offs).map fun b=>(Y7 neq b,h)
   |_,_=>none
 | .un op x=>
   match odS fr x with
   |some a=>(unE op a).map (.s ·,h)
   |none=>none
 | .toi k x=>
   match odS fr x with
   |some (.int _ n)=>some (.s (.int k (k.wrap n)),h)
   |_=>none
 | .itof k x=>
   match odS fr x with
   |some (.int _ n)=>some (.s (.flt k (k.nearest n)),h)
   |_=>none
 | .ftoi k x=>
   match odS fr x with
   |some (.flt s b)=>
    match(s.decode b).toInt .zero with
    |some n=>if k.min≤n∧n≤k.max then some (.s (.int k n),h) else none
    |none=>none
   |_=>none
 | .b2s t x=>
   match odS fr x with
   |some v=>
    match(jW h t 1 v).bind YT with
    |some l=>some (.s (.str ⟨l.toArray⟩),h)
    |none=>none
   |none=>none
 | .mkf f first caps=>
   match odL fr first,odL fr caps with
   |some a,some b=>if Yf a&&Yf b then some (.s (.cl h.length),h++[.clo f a b]) else none
   |_,_=>none
 | .mki t x=>
   match odE fr x with
   |some v=>if Yf [v] then some (.s (.iv h.length),h++[.ifc t v]) else none
   |none=>none
 | .mks t y zero l=>
   match odS fr l with
   |some (.int .i64 n)=>if 0≤n then if n.toNat*y≤140737488355328 then some (.s (.sl h.length 0 0 n.toNat),h++[.own t (rep n.toNat zero)]) else none else none
   |_=>none
 | .sli t _ x lo hi=>
   match odS fr x with
   |some .nils=>
    match bound fr 0 lo,bound fr 0 hi with
    |some 0,some 0=>some (.s .nils,h)
    |_,_=>none
   |some (.sl i p o n)=>
    match bound fr 0 lo,bound fr n hi,cellsOf h i with
    |some l,some u,some (t',_)=>if t'=t then if l≤u then if u≤n then some (.s (.sl i (if l=0 then p else o) (o+l) (u-l)),h) else none else none else none
    |_,_,_=>none
   |_=>none
 | .subs x lo hi=>
   match odS fr x with
   |some (.str s)=>
    match bound fr 0 lo,bound fr s.size hi with
    |some l,some u=>if l≤u then if u≤s.size then some (.s (.str (s.extract l u)),h) else none else none
    |_,_=>none
   |_=>none
 | .sli0 x=>
   match odS fr x with
   |some .nils=>some (.s .nils,h)
   |some (.sl i p o _)=>some (.s (.sl0 i p o),h)
   |some (.sl0 i p o)=>some (.s (.sl0 i p o),h)
   |_=>none
 | .fad off x=>
   match odS fr x with
   |some (.ptr i o)=>some (.s (.ptr i (o+off)),h)
   |_=>none
 | .fld agg off n x=>
   match odE fr x with
   |some (.agg l)=>
    if agg then if off+n≤l.length then some (.agg ((l.drop off).take n),h) else none
    else match l[off]? with
     |some v=>some (.s v,h)
     |none=>none
   |_=>none
 | .iad t z x i=>
   match odS fr x,odS fr i with
   |some (.sl j _ o n),some (.int _ k)=>
    match cellsOf h j with
    |some (t',_)=>if t'=t then if 0≤k then if k<n then some (.s (.ptr j ((o+k.toNat)*z)),h) else none else none else none
    |none=>none
   |_,_=>none
 | .idx x i=>
   match odS fr x,odS fr i with
   |some (.str s),some (.int _ k)=>
    if 0≤k then match s.data.toList[k.toNat]? with
     |some b=>some (.s (.int .u8 b.toNat),h)
     |none=>none
    else none
   |_,_=>none
 | .ext x i=>
   match odE fr x with
   |some (.tup l)=>
    match l[i]? with
    |some v=>some (v,h)
    |none=>none
   |_=>none
 | .len x=>
   match odS fr x with
   |some v=>(zbr v).map fun(n:Nat)=>(FV.s (.int .i64 (n:Int)),h)
   |none=>none
 | .slen x=>
   match odS fr x with
   |some (.str s)=>some (.s (.int .i64 s.size),h)
   |_=>none
 | .app t z y x y'=>
   match odS fr x,odS fr y' with
   |some v,some u=>
    match zbr u,jW h t z u with
    |some n,some new=>ZF h t z y v n new
    |_,_=>none
   |_,_=>none
 | .apps t y x s=>
   match odS fr x,odS fr s with
   |some v,some (.str b)=>ZF h t 1 y v b.size (yK b)
   |_,_=>none
 | .appz t y zero x n=>
   match odS fr x,odS fr n with
   |some v,some (.int .i64 m)=>if 0≤m then ZF h t zero.length y v m.toNat (rep m.toNat zero) else none
   |_,_=>none
 | .copy t z x y=>
   match odS fr x,odS fr y with
   |some (.sl i _ o m),some u=>
    match h[i]?,zbr u,jW h t z u with
    |some (.own t' vs),some n,some new=>
     if t'=t then if(o+m)*z≤vs.length then some (.s (.int .i64 (min n m:Nat)),h.set i (.own t' (qj vs (o*z) (new.take (min n m*z))))) else none else none
    |_,_,_=>none
   |_,_=>none
 | .clr t zero x=>
   match odS fr x with
   |some .nils=>some (.tup [],h)
   |some (.sl _ _ _ 0)=>some (.tup [],h)
   |some (.sl i _ o n)=>
    match h[i]? with
    |some (.own t' vs)=>if t'=t then if(o+n)*zero.length≤vs.length then some (.tup [],h.set i (.own t' (qj vs (o*zero.length) (rep n zero)))) else none else none
    |_=>none
   |_=>none
 | .mn x l=>
   match odS fr x,zcg fr l with
   |some (.int k a),some vs=>(zbw k a vs).map (.s ·,h)
   |_,_=>none
 | .mx x l=>
   match odS fr x,zcg fr l with
   |some (.int k a),some vs=>(zbu k a vs).map (.s ·,h)
   |_,_=>none
 | .re x=>
   match odS fr x with
   |some (.cpl k a _)=>some (.s (.flt k a),h)
   |_=>none
 | .im x=>
   match odS fr x with
   |some (.cpl k _ b)=>some (.s (.flt k b),h)
   |_=>none
 | .cplx x y=>
   match odS fr x,odS fr y with
   |some (.flt .f64 a),some (.flt .f64 b)=>some (.s (.cpl .f64 a b),h)
   |_,_=>none
 | .rng x=>
   match odS fr x with
   |some (.str s)=>some (.s (.ptr h.length 0),h++[.iter s 0])
   |_=>none
 | .nxt x=>
   match odS fr x with
   |some (.ptr i 0)=>
    match h[i]? with
    |some (.iter s pos)=>
     match s.data.toList[pos]? with
     |some b=>if b.toNat<128 then some (.tup [.s (.bool true),.s (.int .i64 pos),.s (.int .i32 b.toNat)],h.set i (.iter s (pos+1))) else none
     |none=>some (.tup [.s (.bool false)],h)
    |_=>none
   |_=>none
 | .mkm=>some (.s (.mp h.length),h++[.map []])
 | .mput q m k x=>
   match odS fr m,odS fr k,odS fr x with
   |some (.mp i),some a,some v=>
    match h[i]? with
    |some (.map es)=>if Jq q a&&nlS v then(zgp a v es).map fun es'=>(.tup [],h.set i (.map es')) else none
    |_=>none
   |_,_,_=>none
 | .mget q ok zero m k=>
   match odS fr m,odS fr k with
   |some (.mp i),some a=>
    match h[i]? with
    |some (.map es)=>
     if Jq q a then
      match getM a es with
      |some r=>some (if ok then .tup [.s (r.getD zero),.s (.bool r.isSome)] else .s (r.getD zero),h)
      |none=>none
     else none
    |_=>none
   |_,_=>none
 | .mlen x=>
   match odS fr x with
   |some (.mp i)=>
    match h[i]? with
    |some (.map es)=>some (.s (.int .i64 es.length),h)
    |_=>none
   |_=>none
 | .s2b t x=>
   match odS fr x with
   |some (.str s)=>some (.s (.sl h.length 0 0 s.size),h++[.own t (yK s)])
   |_=>none
 | .call _ _=>none
 | .callv _ _=>none
def jN(fr:Fr)(h:LH):EO→Option (Nat×List FV)
 | .call f args=>(odL fr args).map (f,·)
 | .callv x args=>
   match odS fr x,odL fr args with
   |some (.fn f),some l=>some (f,l)
   |some (.cl i),some l=>
    match h[i]? with
    |some (.clo f first caps)=>some (f,first++l++caps)
    |_=>none
   |_,_=>none
 |_=>none
def jr:EO→Bool
 | .call _ _=>true
 | .callv _ _=>true
 |_=>false
abbrev zU:=Nat→List FV→LH→Option (FV×LH)
def zL(call:zU)(fr:Fr)(h:LH)(o:EO):Option (FV×LH):=
 if jr o then match jN fr h o with
  |some (f,args)=>call f args h
  |none=>none
 else opE fr h o
def ji(fr:Fr):Option (Nat×Bool)→Option Bool
 |none=>some true
 |some (s,b)=>
  match yi fr s with
  |some (.s (.bool t))=>some (t==b)
  |some (.tup [])=>some false
  |_=>none
def jR(call:zU):List EG→Fr→LH→Option (Fr×LH)
 |[],fr,h=>some (fr,h)
 |g::r,fr,h=>
  match ji fr g.guard with
  |some true=>
   match zL call fr h g.op with
   |some (v,h')=>jR call r (qs fr g.dst (some v)) h'
   |none=>none
  |some false=>jR call r (qs fr g.dst (some (.tup []))) h
  |none=>none
structure TE where
 fr:Fr
 h:LH
 op:EO
 v:FV
 h':LH
def odT:OD→List Nat
 | .t n=>[n]
 | .c _=>[]
def zaQ:List OD→List Nat
 |[]=>[]
 |x::r=>odT x++zaQ r
def zhS:Option OD→List Nat
 |none=>[]
 |some x=>odT x
def Qc:List (Nat×Nat×OD)→List Nat
 |[]=>[]
 |p::r=>odT p.2.2++Qc r
def zX:EO→List Nat
 | .mov x| .nilc x| .nilf x| .un _ x| .toi _ x| .itof _ x| .ftoi _ x| .b2s _ x| .mki _ x| .sli0 x| .fad _ x| .fld _ _ _ x| .ext x _| .len x| .slen x| .clr _ _ x| .re x| .im x=>odT x
 | .load _ _ x=>odT x
 | .new _ _ x=>odT x
 | .mks _ _ _ x=>odT x
 | .pick c a b=>odT c++odT a++odT b
 | .store _ a x=>odT a++odT x
 | .build _ ps=>Qc ps
 | .bsl _ _ _ ps=>Qc ps
 | .bin _ x y| .eqb _ x y| .eqp _ x y| .eqn _ x y| .eqs _ _ x y| .cplx x y=>odT x++odT y
 | .mkf _ a b=>zaQ a++zaQ b
 | .sli _ _ x a b=>odT x++zhS a++zhS b
 | .subs x a b=>odT x++zhS a++zhS b
 | .iad _ _ x i=>odT x++odT i
 | .idx x i=>odT x++odT i
 | .call _ l=>zaQ l
 | .callv x l=>odT x++zaQ l
 | .app _ _ _ x y=>odT x++odT y
 | .apps _ _ x y=>odT x++odT y
 | .appz _ _ _ x y=>odT x++odT y
 | .copy _ _ x y=>odT x++odT y
 | .mn x l| .mx x l=>odT x++zaQ l
 | .rng x| .nxt x| .mlen x| .s2b _ x=>odT x
 | .mkm=>[]
 | .mput _ m k x=>odT m++odT k++odT x
 | .mget _ _ _ m k=>odT m++odT k
def zJ(g:EG):List Nat:=
 match g.guard with
 |none=>zX g.op
 |some (s,_)=>s::zX g.op
def y7(call:zU):List EG→Fr→LH→Option (List (Option TE)×Fr×LH)
 |[],fr,h=>some ([],fr,h)
 |g::r,fr,h=>
  match ji (zk (zJ g) fr) g.guard with
  |some true=>
   match zL call (zk (zJ g) fr) h g.op with
   |some (v,h')=>(y7 call r (qs fr g.dst (some v)) h').map fun x=>(some ⟨zk (zJ g) fr,h,g.op,v,h'⟩::x.1,x.2)
   |none=>none
  |some false=>(y7 call r (qs fr g.dst (some (.tup []))) h).map fun x=>(none::x.1,x.2)
  |none=>none
def Yu:EO→Bool
 | .mov _| .nilc _| .pick _ _ _| .build _ _| .bin _ _ _| .eqb _ _ _| .eqp _ _ _| .eqn _ _ _| .eqs _ _ _ _| .un _ _| .toi _ _| .itof _ _| .ftoi _ _| .fad _ _| .fld _ _ _ _| .idx _ _| .ext _ _
 | .len _| .slen _| .mn _ _| .mx _ _| .re _| .im _| .cplx _ _| .sli0 _| .subs _ _ _=>false
 |_=>true
def yp:EO→Bool
 | .store _ _ _| .new _ _ _| .bsl _ _ _ _| .mkf _ _ _| .mki _ _| .mks _ _ _ _| .call _ _| .callv _ _| .app _ _ _ _ _| .apps _ _ _ _| .appz _ _ _ _ _| .copy _ _ _ _| .clr _ _ _| .rng _| .nxt _| .mkm| .mput _ _ _ _| .s2b _ _=>true
 |_=>false
def nmS(S:Nat→Prop):SV→Prop
 | .ptr i _=>S i
 | .sl i _ _ _=>S i
 | .sl0 i _ _=>S i
 | .mp i=>S i
 | .cl i=>S i
 | .iv i=>S i
 |_=>True
def nmL(S:Nat→Prop):List SV→Prop
 |[]=>True
 |v::r=>nmS S v∧nmL S r
mutual
def nmV(S:Nat→Prop):FV→Prop
 | .s v=>nmS S v
 | .agg l=>nmL S l
 | .tup l=>zei S l
def zei(S:Nat→Prop):List FV→Prop
 |[]=>True
 |v::r=>nmV S v∧zei S r
end
def zdn(n:Nat):Fr→Prop
 |[]=>True
 |(_,some v)::r=>nmV (·<n) v∧zdn n r
 |(_,none)::r=>zdn n r
def rdO(fr:Fr):EO→Option Nat
 | .load _ _ a=>match odS fr a with
   |some (.ptr i _)=>some i
   |_=>none
 | .nilf x=>match odS fr x with
   |some (.cl i)=>some i
   |_=>none
 | .b2s _ x=>match odS fr x with
   |some (.sl i _ _ _)=>some i
   |_=>none
 | .sli _ _ x _ _=>match odS fr x with
   |some (.sl i _ _ _)=>some i
   |_=>none
 | .iad _ _ x _=>match odS fr x with
   |some (.sl i _ _ _)=>some i
   |_=>none
 | .mget _ _ _ x _=>match odS fr x with
   |some (.mp i)=>some i
   |_=>none
 | .mlen x=>match odS fr x with
   |some (.mp i)=>some i
   |_=>none
 |_=>none
def zh1(n:Nat)(fr:Fr)(op:EO):Prop:=match rdO fr op with
 |some p=>n≤p
 |none=>False
def j7(call:zU)(tr:List (Option TE))(p:Nat×Nat):Prop:=
 match tr[p.1]?,tr[p.2]? with
 |some (some a),some (some b)=>b.h'=b.h∨(zL call a.fr b.h a.op=some (a.v,b.h)∧zL call a.fr b.h' a.op=some (a.v,b.h')∧(yp a.op=true→a.h'=a.h∧zdn b.h.length a.fr))∨(yp a.op=false∧zh1 b.h'.length a.fr a.op)
 |some _,some _=>True
 |_,_=>False
def ye(call:zU)(tr:List (Option TE)):List (Nat×Nat)→Prop
 |[]=>True
 |p::r=>j7 call tr p∧ye call tr r
open Classical in
noncomputable def Zs(call:zU)(l:List EG)(pairs:List (Nat×Nat))(fr:Fr)(h:LH):Option (Fr×LH):=
 match y7 call l fr h with
 |some (tr,fr',h')=>if ye call tr pairs then some (fr',h') else none
 |none=>none
inductive Ex where
 |normal
 |exit (id:Nat)
 |goto (l:Nat)
 |ret
abbrev Out:=Option (Ex×Fr×LH)
def jX(body:Fr→LH→Out)(keep:List Nat):Nat→Fr→LH→Out
 |0,_,_=>none
 |n+1,fr,h=>
  match body (zk keep fr) h with
  |some (.normal,fr',h')=>jX body keep n fr' h'
  |r=>r
def Yr:EC→Nat→Bool
 | .seq a b,l=>Yr a l||Yr b l
 | .label l',l=>l'==l
 |_,_=>false
def yc(at':Nat→Fr→LH→Out)(has:Nat→Bool):Nat→Out→Out
 |n,r=>
  match r with
  |some (.goto l,fr,h)=>if has l then match n with
   |0=>none
   |n+1=>yc at' has n (at' l fr h) else some (.goto l,fr,h)
  |r=>r
def jc:Nat→List FV→Fr
 |_,[]=>[]
 |n,v::r=>(n,some v)::jc (n+1) r
def JH(fr:Fr):Nat→Nat→Option (List FV)
 |_,0=>some []
 |i,k+1=>
  match yi fr i with
  |some v=>(JH fr (i+1) k).map (v:: ·)
  |none=>none
def zlu(n m:Nat)(g:List FV→LH→Option (List FV×LH))(fr:Fr)(h:LH):Out:=
 match(JH fr 0 n).bind fun args=>g args h with
 |some (vs,h')=>if vs.length=m then if h.length≤h'.length then some (.normal,jc n vs,h') else none else none
 |none=>none
mutual
noncomputable def zp(call:zU)(n:Nat):EC→Fr→LH→Out
 | .skip,fr,h=>some (.normal,fr,h)
 | .label _,fr,h=>some (.normal,fr,h)
 | .ops l keep,fr,h=>(jR call l fr h).map fun x=>(.normal,zk keep x.1,x.2)
 | .draw l ps keep,fr,h=>(Zs call l ps fr h).map fun x=>(.normal,zk keep x.1,x.2)
 | .seq a b,fr,h=>
   match zp call n a fr h with
   |some (.normal,fr',h')=>zp call n b fr' h'
   |r=>r
 | .cond c a b,fr,h=>
   match odS fr c with
   |some (.bool t)=>if t then zp call n a fr h else zp call n b fr h
   |_=>none
 | .block id b,fr,h=>
   match zp call n b fr h with
   |some (.exit id',fr',h')=>if id'=id then some (.normal,fr',h') else some (.exit id',fr',h')
   |r=>r
 | .loop keep b,fr,h=>jX (zp call n b) keep n fr h
 | .exit id keep,fr,h=>some (.exit id,zk keep fr,h)
 | .ret keep,fr,h=>some (.ret,zk keep fr,h)
 | .goto l keep,fr,h=>some (.goto l,zk keep fr,h)
 | .scope b,fr,h=>yc (zM call n b) (Yr b) n (zp call n b fr h)
 | .ext k m g,fr,h=>zlu k m g fr h
noncomputable def zM(call:zU)(n:Nat):EC→Nat→Fr→LH→Out
 | .seq a b,l,fr,h=>
   if Yr a l then match zM call n a l fr h with
   |some (.normal,fr',h')=>zp call n b fr' h'
   |r=>r
   else zM call n b l fr h
 | .label l',l,fr,h=>if l'==l then some (.normal,fr,h) else none
 |_,_,_,_=>none
end
def zgt(fr:Fr)(h:LH):ER→Option FV
 | .tmp t=>yi fr t
 | .cell t g n=>(opE fr h (.load g n (.t t))).map (·.1)
def jI(fr:Fr)(h:LH):List ER→Option (List FV)
 |[]=>some []
 |r::l=>
  match zgt fr h r with
  |some v=>(jI fr h l).map (v:: ·)
  |none=>none
def qE:List FV→FV
 |[v]=>v
 |l=> .tup l
def qL(l:Option (List FV))(h:LH):Option (FV×LH):=
 match l with
 |some l=>if Yf l then some (qE l,h) else none
 |none=>none
noncomputable def ja(C:Nat→Option EF):Nat→zU
 |0,_,_,_=>none
 |n+1,f,args,h=>
  match C f with
  |none=>none
  |some e=>
   if args.length≤e.slots then
    match zp (ja C n) n e.body (jc 0 args) h with
    |some (.normal,fr,h')=>qL (jI fr h' e.res) h'
    |some (.ret,fr,h')=>qL (jI fr h' e.res) h'
    |_=>none
   else none
def ziA:Value→Option SV
 | .bool b=>some (.bool b)
 | .int k n=>some (.int k n)
 | .float k b=>some (.flt k b)
 | .complex k a b=>some (.cpl k a b)
 | .string s=>some (.str s)
 | .pointer none=>some .nilp
 | .slice none 0 0=>some .nils
 | .map none=>some .nilm
 | .nilFunc=>some .nilf
 | .nilIface=>some .nili
 | .func (.func f) a b=>if a.size=0 then if b.size=0 then some (.fn f) else none else none
 |_=>none
def zft:List Value→Option (List SV)
 |[]=>some []
 |v::r=>
  match ziA v with
  |some x=>(zft r).map (x:: ·)
  |none=>none
def zmJ:Value→Option FV
 | .agg cs=>(zft cs.toList).map .agg
 |v=>(ziA v).map .s
def zj:Operand→Option OD
 | .tmp t=>some (.t t)
 | .const v=>(zmJ v).map .c
 | .func f=>some (.c (.s (.fn f)))
 | .global _=>none
def yv:List Operand→Option (List OD)
 |[]=>some []
 |x::r=>
  match zj x with
  |some y=>(yv r).map (y:: ·)
  |none=>none
def Yd:Option Operand→Option (Option OD)
 |none=>some none
 |some x=>(zj x).map some
section
variable (P:Program)
def QL(t:TypeId):Option (Bool×Nat):=
 match P.underlying t,P.info? t with
 |some (.struct _),some i=>some (true,i.size)
 |some (.array _ _),some i=>some (true,i.size)
 |some _,some i=>some (false,i.size)
 |_,_=>none
def ZW(t:TypeId):Option (List SV):=
 match P.info? t with
 |some i=>i.zero.bind fun z=>zft z.cells.toList
 |none=>none
def Zb(t:TypeId):Option TypeId:=
 match P.underlying t with
 |some (.slice e)=>some e
 |_=>none
def Qx(s:TypeId)(f:Nat):Option Field:=
 match P.underlying s with
 |some (.struct fs)=>fs[f]?
 |_=>none
def ql(place:Nat→Option (Nat×Nat)):List (Nat×Operand)→Option (List (Nat×Nat×OD))
 |[]=>some []
 |(i,x)::r=>
  match place i,zj x with
  |some (o,n),some y=>(ql place r).map ((o,n,y):: ·)
  |_,_=>none
def zdQ(t:TypeId):Option (List (Nat×Nat)):=
 match P.underlying t with
 |some (.struct fields)=>fields.toList.mapM (fun f=>(P.info? f.type).map fun i=>(f.offset,i.size))
 |_=>none
def zhl(t:TypeId):Bool:=P.underlying t matches some .string
def zdC(t:TypeId):Option (Bool×TypeId):=
 match P.underlying t with
 |some (.map k e)=>
  match P.underlying k with
  |some (.int _)=>some (false,e)
  |some .string=>some (true,e)
  |_=>none
 |_=>none
def zpw(t:TypeId):Option SV:=((P.info? t).bind (·.zero)).bind ziA
def qa:List Field→Option (List (Nat×Nat))
 |[]=>some []
 |f::r=>
  if f.name = "_" then none
  else match P.underlying f.type with
   |some (.int _)=>(qa r).map ((f.offset,0):: ·)
   |some .bool=>(qa r).map ((f.offset,1):: ·)
   |some .string=>(qa r).map ((f.offset,2):: ·)
   |_=>none
def zkb(op:BinOp)(t:TypeId)(x y:OD):Option EO:=
 match op with
 | .eql| .neq=>
   let neq:=op= .neq
   match P.underlying t with
   |some .bool=>some (.eqb neq x y)
   |some (.pointer _)=>some (.eqp neq x y)
   |some (.slice _)=>some (.eqn neq x y)
   |some (.struct fs)=>
    if P.eqGuardType P.depth t then none
    else if P.stoodInHeld t then none
    else(qa P fs.toList).map fun l=> .eqs neq l x y
   |some (.int _)|some .string|some (.float _)|some (.complex _)=>some (.bin op x y)
   |_=>none
 |_=>some (.bin op x y)
def zbo:Operand→Bool
 | .const (.int _ 0)=>true
 |_=>false
def zjH:Operand→Operand→Bool
 | .tmp a,.tmp b=>a==b
 | .const (.int .i64 a),.const (.int .i64 b)=>a==b
 |_,_=>false
def zg0(f:Nat):Bool:=
 match P.funcs[f]? with
 | some fn => fn.name != "runtime.NumGoroutine" && fn.body.isSome
 |none=>false
def JN(b:Builtin)(ts:Array TypeId)(args:List OD):Option EO:=
 match b,args with
 | .len,[x]=>
   match(ts[0]?).bind P.underlying with
   |some .string=>some (.slen x)
   |some (.slice _)=>some (.len x)
   |some (.map _ _)=>some (.mlen x)
   |_=>none
 | .append,[x,y]=>
   match(ts[0]?).bind (Zb P),(ts[1]?).bind P.underlying with
   |some e,some (.slice e')=>if e'=e then(P.info? e).bind fun i=>if 0<i.size∧0<i.bytes∧i.zero.any (fun u=>u.cells.size==i.size)∧ts.size=2 then some (.app e i.size i.bytes x y) else none else none
   |some e,some .string=>(P.info? e).bind fun i=>if i.size=1∧0<i.bytes∧i.zero.any (fun u=>u.cells.size==i.size)∧ts.size=2 then some (.apps e i.bytes x y) else none
   |_,_=>none
 | .copy,[x,y]=>
   match(ts[0]?).bind (Zb P),(ts[1]?).bind P.underlying with
   |some e,some (.slice e')=>if e'=e then(P.info? e).bind fun i=>if 0<i.size then some (.copy e i.size x y) else none else none
   |_,_=>none
 | .clear,[x]=>
   match(ts[0]?).bind (Zb P) with
   |some e=>(P.info? e).bind fun i=>(ZW P e).bind fun z=>if 0<i.size then if z.length=i.size then some (.clr e z x) else none else none
   |none=>none
 | .min,x::r=>some (.mn x r)
 | .max,x::r=>some (.mx x r)
 | .real,[x]=>some (.re x)
 | .imag,[x]=>some (.im x)
 | .complex,[x,y]=>some (.cplx x y)
 |_,_=>none
def zcW(c:Call):Option EO:=
 match c.callee with
 | .builtin b=>(yv c.args.toList).bind (JN P b c.argTypes)
 | .value (.func f)=>if zg0 P f then(yv c.args.toList).map (.call f) else none
 | .value (.tmp t)=>(yv c.args.toList).map (.callv (.t t))
 |_=>none
def Q1(ty:TypeId):Op→Option EO
 | .move x=>(zj x).map .mov
 | .assign x=>(zj x).map .mov
 | .pick c a b=>
   match zj c,zj a,zj b with
   |some c,some a,some b=>some (.pick c a b)
   |_,_,_=>none
 | .alloc t=>
   match QL P t,ZW P t with
   |some (true,n),some z=>if 0<n then some (.new t n (.c (.agg z))) else none
   |some (false,1),some [v]=>some (.new t 1 (.c (.s v)))
   |_,_=>none
 | .box t x=>
   match QL P t,zj x with
   |some (_,n),some y=>if 0<n then some (.new t n y) else none
   |_,_=>none
 | .build t parts=>
   match ZW P t,zdQ P t with
   |some z,some pl=>(ql (pl.toArray[·]?) parts.toList).map (.build z)
   |_,_=>none
 | .buildSlice t n parts=>
   match Zb P t with
   |some e=>
    match P.info? e,ZW P e with
    |some i,some z=>
     if n*i.size≤16777216 then if 0<i.size then if z.length=i.size then
      (ql (fun j=>some (j*i.size,i.size)) parts.toList).map (.bsl e n z) else none else none else none
    |_,_=>none
   |none=>none
 | .load t a=>
   match QL P t,zj a with
   |some (g,n),some y=>some (.load g n y)
   |_,_=>none
 | .store t a x=>
   match QL P t,zj a,zj x with
   |some (_,n),some y,some z=>some (.store n y z)
   |_,_,_=>none
 | .nilCheck x=>if P.underlying ty matches some (.func _ _ _) then(zj x).map .nilf else(zj x).map .nilc
 | .binOp op t x y _=>
   match zj x,zj y with
   |some a,some b=>zkb P op t a b
   |_,_=>none
 | .unOp op _ x=>(zj x).map (.un op)
 | .convert src dst x=>
   match zj x with
   |some y=>
    match P.underlying src,P.underlying dst with
    |some (.int _),some (.int k)=>some (.toi k y)
    |some (.int _),some (.float k)=>some (.itof k y)
    |some (.float _),some (.int k)=>some (.ftoi k y)
    |some (.slice e),some .string=>if P.underlying e matches some (.int .u8) then(P.info? e).bind fun i=>if i.size=1 then some (.b2s e y) else none else none
    |some .string,some (.slice e)=>if P.underlying e matches some (.int .u8) then(P.info? e).bind fun i=>if i.size=1 then some (.s2b e y) else none else none
    |_,_=>none
   |none=>none
 | .makeInterface t x=>
   match P.underlying t,zj x with
   |some (.interface _),_=>none
   |some _,some y=>some (.mki t y)
   |_,_=>none
 | .makeFunc (.func f) first caps=>
   if zg0 P f then
    match yv first.toList,yv caps.toList with
    |some a,some b=>some (.mkf f a b)
    |_,_=>none
   else none
 | .makeSlice t l c=>
   match Zb P t,zj l with
   |some e,some y=>
    match P.info? e,ZW P e with
    |some i,some z=>if zjH l c then if 0<i.size∧0<i.bytes then if z.length=i.size then some (.mks e i.bytes z y) else none else none else none
    |_,_=>none
   |_,_=>none
 | .slice t x lo hi mx=>
   match mx with
   |some m=>
    match Zb P t,zj x,lo,hi with
    |some e,some y,none,some u=>if zbo u&&zbo m&&(P.info? e).isSome then some (.sli0 y) else none
    |_,_,_,_=>none
   |none=>
    match zj x,Yd lo,Yd hi with
    |some y,some a,some b=>
     if zhl P t then some (.subs y a b)
     else match Zb P t with
      |some e=>(P.info? e).bind fun i=>if 0<i.size then some (.sli e i.size y a b) else none
      |none=>none
    |_,_,_=>none
 | .fieldAddr s x f=>
   match Qx P s f,zj x with
   |some g,some y=>(P.info? g.type).bind fun i=>if 0<i.size then some (.fad g.offset y) else none
   |_,_=>none
 | .field s x f=>
   match Qx P s f,zj x with
   |some g,some y=>(QL P g.type).map fun p=> .fld p.1 g.offset p.2 y
   |_,_=>none
 | .indexAddr t x i=>
   match Zb P t,zj x,zj i with
   |some e,some y,some j=>(P.info? e).bind fun i=>if 0<i.size then some (.iad e i.size y j) else none
   |_,_,_=>none
 | .index t x i=>
   match zhl P t,zj x,zj i with
   |true,some y,some j=>some (.idx y j)
   |_,_,_=>none
 | .extract x i=>(zj x).map fun y=> .ext y i
 | .call c=>zcW P c
 | .panic _=>some (.re (.c (.s .nilp)))
 | .range t x=>if zhl P t then(zj x).map .rng else none
 | .next x s=>if s then(zj x).map .nxt else none
 | .makeMap _ r=>if r.isNone then some .mkm else none
 | .insert t m k x=>
   match zdC P t,zj m,zj k,zj x with
   |some (q,_),some m,some k,some x=>some (.mput q m k x)
   |_,_,_,_=>none
 | .mapUpdate t m k x=>
   match zdC P t,zj m,zj k,zj x with
   |some (q,_),some m,some k,some x=>some (.mput q m k x)
   |_,_,_,_=>none
 | .lookup t m k ok=>
   match zdC P t,zj m,zj k with
   |some (q,e),some m,some k=>
    match zpw P e with
    |some z=>if nlS z then some (.mget q ok z m k) else none
    |none=>none
   |_,_,_=>none
 |_=>none
def zbb:Op→Bool
 | .call c=>match c.callee with
   | .builtin _=>false
   |_=>true
 |_=>false
def zes(N:Nat)(ops:Array Oper)(o:Oper):Option EG:=
 if o.dst.all (fun d=>decide (d<N)) then
  match Q1 P o.type o.op with
  |some e=>
   if jr e&& !zbb o.op then none else
   match o.guard with
   |none=>some ⟨o.dst,e,none⟩
   |some (j,b)=>
    match(ops[j]?).bind (·.dst) with
    |some s=>some ⟨o.dst,e,some (s,b)⟩
    |none=>none
  |none=>none
 else none
def Zg(N:Nat)(ops:Array Oper):List Oper→Option (List EG)
 |[]=>some []
 |o::r=>
  match zes P N ops o with
  |some g=>(Zg N ops r).map (g:: ·)
  |none=>none
end
def paE:EO→Bool
 | .new _ _ _=>true
 | .mks _ _ _ _=>true
 | .bsl _ _ _ _=>true
 | .mkf _ _ _=>true
 | .mki _ _=>true
 |_=>false
def nlV:FV→Bool
 | .s v=>nlS v
 | .agg l=>l.all nlS
 | .tup l=>l.isEmpty
def nlD:OD→Bool
 | .t _=>true
 | .c v=>nlV v
def nlO:Option OD→Bool
 |none=>true
 |some x=>nlD x
def nlE:EO→Bool
 | .mov x| .nilc x| .nilf x| .un _ x| .toi _ x| .itof _ x| .ftoi _ x| .b2s _ x| .mki _ x| .sli0 x| .fad _ x| .fld _ _ _ x| .ext x _| .len x| .slen x| .re x| .im x=>nlD x
 | .load _ _ x=>nlD x
 | .new _ _ x=>nlD x
 | .mks _ _ z x=>z.all nlS&&nlD x
 | .pick c a b=>nlD c&&nlD a&&nlD b
 | .build z ps=>z.all nlS&&ps.all fun p=>nlD p.2.2
 | .bsl _ _ z ps=>z.all nlS&&ps.all fun p=>nlD p.2.2
 | .bin _ x y| .eqb _ x y| .eqp _ x y| .eqn _ x y| .eqs _ _ x y| .cplx x y=>nlD x&&nlD y
 | .mkf _ a b=>a.all nlD&&b.all nlD
 | .sli _ _ x a b=>nlD x&&nlO a&&nlO b
 | .subs x a b=>nlD x&&nlO a&&nlO b
 | .iad _ _ x i=>nlD x&&nlD i
 | .idx x i=>nlD x&&nlD i
 | .mn x l| .mx x l=>nlD x&&l.all nlD
 | .mlen x=>nlD x
 | .mget _ _ z m k=>nlS z&&nlD m&&nlD k
 |_=>true
def zhT(ops:Array Oper)(l:List EG):List Nat:=
 let b:=Region.before ops;let n:=l.length;let pa:=fun i=>match l[i]? with|some g=>paE g.op|none=>false
 let ch:=fun i=>match l[i]? with|some g=>yp g.op&& !paE g.op|none=>false
 if(List.range n).any fun p=>pa p&&(List.range n).any fun j=>decide (p<j)&&ch j&& !((b.getD j 0).testBit p) then
  let d:=(List.range n).foldl (fun done i=>if !ch i||done.contains i then done else done++((List.range i).filter fun j=>(b.getD i 0).testBit j&& !done.contains j)++[i]) []
  d++(List.range n).filter fun i=> !d.contains i
 else List.range n
def zaU(ops:Array Oper)(ord:List Nat)(l:List EG):List (Nat×Nat):=
 let b:=Region.before ops
 (List.range l.length).flatMap fun i=>
   match l[i]? with
   |some g=>
    if Yu g.op&& !paE g.op then(List.range l.length).filterMap fun j=>
     match l[j]? with
     |some g'=>if yp g'.op&&i !=j&& !((b.getD (ord.getD j 0) 0).testBit (ord.getD i 0))&& !((b.getD (ord.getD i 0) 0).testBit (ord.getD j 0))&& !(paE g'.op&&decide (i<j)) then some (i,j) else none
     |none=>none
    else[]
   |none=>[]
def Yj(ord:List Nat)(l:List EG):List EG:=ord.map fun k=>l.getD k ⟨none,.re (.c (.s .nilp)),none⟩
def zfL(ops:Array Oper)(ord:List Nat)(l:List EG):Bool:=
 let b:=Region.before ops
 ord.length==ops.size&&(List.range ops.size).all (fun k=>ord.contains k)&&(ord.all fun k=>decide (k<ops.size))&&
 ((List.range l.length).all fun i=>
   (match ops[ord.getD i 0]? with
    |some o=>o.after.all fun e=> !Region.binds .any e||(ord.take i).contains e.on
    |none=>false)&&
   match l[i]? with
   |some g=>
    nlE g.op&&
    ((List.range l.length).all fun j=>
      (i==j||ord.getD i 0 !=ord.getD j 0)&&
      match l[j]? with
      |some g'=>
       match g'.dst with
       |some d=>(i==j||g.dst !=some d)&&(!(zJ g).contains d||i==j||(b.getD (ord.getD i 0) 0).testBit (ord.getD j 0)||(b.getD (ord.getD j 0) 0).testBit (ord.getD i 0))
       |none=>true
      |none=>false)
   |none=>false)
def jh(hs:List (List Nat)):List Nat×List (List Nat):=
 match hs with
 |[]=>([],[])
 |k::r=>(k,r)
section
variable (P:Program)
def yq(N:Nat):Code→List (List Nat)→Option (EC×List (List Nat))
 | .skip,hs=>some (.skip,hs)
 | .region _ ops false,hs=>(Zg P N ops ops.toList).map fun l=>(.ops l (jh hs).1,(jh hs).2)
 | .region _ ops true,hs=>
   match Zg P N ops ops.toList with
   |some l=>
    if zfL ops (zhT ops l) (Yj (zhT ops l) l) then some (.draw (Yj (zhT ops l) l) (zaU ops (zhT ops l) (Yj (zhT ops l) l)) (jh hs).1,(jh hs).2) else none
   |none=>none
 | .seq a b,hs=>
   match yq N a hs with
   |some (x,hs')=>(yq N b hs').map fun y=>(.seq x y.1,y.2)
   |none=>none
 | .cond c a b,hs=>
   match zj c,yq N a hs with
   |some x,some (y,hs')=>(yq N b hs').map fun z=>(.cond x y z.1,z.2)
   |_,_=>none
 | .block id b,hs=>(yq N b hs).map fun x=>(.block id x.1,x.2)
 | .loop b,hs=>(yq N b (jh hs).2).map fun x=>(.loop (jh hs).1 x.1,x.2)
 | .exit id,hs=>some (.exit id (jh hs).1,(jh hs).2)
 | .ret,hs=>some (.ret (jh hs).1,(jh hs).2)
 | .label l,hs=>some (.label l,hs)
 | .goto l,hs=>some (.goto l (jh hs).1,(jh hs).2)
 | .scope b,hs=>(yq N b hs).map fun x=>(.scope x.1,x.2)
 |_,_=>none
def zr8:ResultVar→Option ER
 | .tmp t=>some (.tmp t)
 | .cell c t=>(QL P t).map fun p=> .cell c p.1 p.2
def Q2:List ResultVar→Option (List ER)
 |[]=>some []
 |r::l=>
  match zr8 P r with
  |some x=>(Q2 l).map (x:: ·)
  |none=>none
def jk(f:Nat)(hs:List (List Nat)):Option EF:=
 match P.funcs[f]? with
 |some fn=>
  match fn.body with
  |some c=>
   if fn.name != "runtime.NumGoroutine" then
    match yq P fn.ntmps c hs,Q2 P fn.results.toList with
    |some x,some r=>some ⟨fn.ntmps,x.1,r⟩
    |_,_=>none
   else none
  |none=>none
 |none=>none
end
end Go.Proofs.YtdmcfjkgopmlgaaGreatDoor.Ev
namespace Go.Proofs.YtdmcfjkgopmlgaaGreatDoor.Ev
open Go Go.RowKit
section
structure Ph where
 blk:Nat
 base:Nat
 sz:Nat
 cap:Nat
 val:Value
def adr(p:Ph)(prev o:Nat):Addr:=⟨p.blk,p.base+(if p.cap≤o then prev else o)*p.sz,none⟩
def c0(ρ:Nat→Ph):SV→Value
 | .bool b=> .bool b
 | .int k n=> .int k n
 | .flt k b=> .float k b
 | .cpl k a b=> .complex k a b
 | .str s=> .string s
 | .nilp=> .pointer none
 | .ptr i o=> .pointer (some ⟨(ρ i).blk,(ρ i).base+o,none⟩)
 | .nils=> .slice none 0 0
 | .sl i p o n=> .slice (some (adr (ρ i) p o)) n ((ρ i).cap-o)
 | .sl0 i p o=> .slice (some (adr (ρ i) p o)) 0 0
 | .nilm=> .map none
 | .mp i=> .map (some (ρ i).blk)
 | .nilf=> .nilFunc
 | .fn f=> .func (.func f) #[] #[]
 | .cl i=>(ρ i).val
 | .nili=> .nilIface
 | .iv i=>(ρ i).val
def c1(ρ:Nat→Ph):FV→Value
 | .s v=>c0 ρ v
 | .agg l=> .agg (l.map (c0 ρ)).toArray
 | .tup _=>undef
def cv(ρ:Nat→Ph):FV→Value
 | .tup l=> .tuple (l.map (c1 ρ)).toArray
 | .s v=>c0 ρ v
 | .agg l=> .agg (l.map (c0 ρ)).toArray
def wf(ρ:Nat→Ph)(n:Nat):SV→Prop
 | .ptr i _=>i<n
 | .sl i _ o m=>i<n∧o+m≤(ρ i).cap
 | .sl0 i _ _=>i<n
 | .mp i=>i<n
 | .cl i=>i<n∧(ρ i).val.oneCell'=true
 | .iv i=>i<n∧(ρ i).val.oneCell'=true
 |_=>True
def wf1(ρ:Nat→Ph)(n:Nat):FV→Prop
 | .s v=>wf ρ n v
 | .agg l=>∀v∈l,wf ρ n v
 | .tup _=>False
def wfV(ρ:Nat→Ph)(n:Nat):FV→Prop
 | .s v=>wf ρ n v
 | .agg l=>∀v∈l,wf ρ n v
 | .tup l=>∀v∈l,wf1 ρ n v
theorem Jj{ρ:Nat→Ph}{n:Nat}{v:FV}(h:wf1 ρ n v):wfV ρ n v:=by
 cases v with
 |s v=>exact h
 |agg l=>exact h
 |tup l=>exact h.elim
theorem zbe{ρ:Nat→Ph}{n:Nat}{v:FV}(h:wf1 ρ n v):cv ρ v=c1 ρ v:=by
 cases v with
 |s v=>rfl
 |agg l=>rfl
 |tup l=>exact h.elim
def Ext(n:Nat)(ρ ρ':Nat→Ph):Prop:=∀i,i<n→ρ' i=ρ i
theorem Ext.refl(n:Nat)(ρ:Nat→Ph):Ext n ρ ρ:=fun _ _=>rfl
theorem Ext.trans{n m:Nat}{ρ ρ' ρ'':Nat→Ph}(h:Ext n ρ ρ')(hm:n≤m)(h':Ext m ρ' ρ''):Ext n ρ ρ'':=fun i hi=>(h' i (by omega)).trans (h i hi)
theorem ziG{n:Nat}{ρ ρ':Nat→Ph}(h:Ext n ρ ρ'){v:SV}(hv:wf ρ n v):c0 ρ' v=c0 ρ v:=by
 cases v<;>simp only[c0]<;>simp only[wf] at hv<;>first
  |rfl
  |rw[h _ hv]
  |rw[h _ hv.1]
theorem Jk{n m:Nat}{ρ ρ':Nat→Ph}(h:Ext n ρ ρ')(hm:n≤m){v:SV}(hv:wf ρ n v):wf ρ' m v:=by
 cases v<;>simp only[wf] at hv⊢<;>first
  |omega
  |(refine⟨by omega,?_⟩;rw[h _ hv.1];exact hv.2)
theorem qY{n:Nat}{ρ ρ':Nat→Ph}(h:Ext n ρ ρ'){l:List SV}(hv:∀v∈l,wf ρ n v):l.map (c0 ρ')=l.map (c0 ρ):=
 zvj fun v hm=>ziG h (hv v hm)
theorem QX{n:Nat}{ρ ρ':Nat→Ph}(h:Ext n ρ ρ'){v:FV}(hv:wf1 ρ n v):c1 ρ' v=c1 ρ v:=by
 cases v with
 |s v=>exact ziG h hv
 |agg l=>simp only[c1];rw[qY h hv]
 |tup l=>rfl
theorem Ji{n m:Nat}{ρ ρ':Nat→Ph}(h:Ext n ρ ρ')(hm:n≤m){v:FV}(hv:wf1 ρ n v):wf1 ρ' m v:=by
 cases v with
 |s v=>exact Jk h hm hv
 |agg l=>exact fun v hl=>Jk h hm (hv v hl)
 |tup l=>exact hv.elim
theorem zsU{n:Nat}{ρ ρ':Nat→Ph}(h:Ext n ρ ρ'){v:FV}(hv:wfV ρ n v):cv ρ' v=cv ρ v:=by
 cases v with
 |s v=>exact ziG h hv
 |agg l=>simp only[cv];rw[qY h hv]
 |tup l=>
  simp only[cv];rw[zvj fun v hm=>QX h (hv v hm)]
theorem za8{n m:Nat}{ρ ρ':Nat→Ph}(h:Ext n ρ ρ')(hm:n≤m){v:FV}(hv:wfV ρ n v):wfV ρ' m v:=by
 cases v with
 |s v=>exact Jk h hm hv
 |agg l=>exact fun v hl=>Jk h hm (hv v hl)
 |tup l=>exact fun v hl=>Ji h hm (hv v hl)
theorem ziH{ρ:Nat→Ph}{n:Nat}{v:SV}(hv:wf ρ n v):(c0 ρ v).oneCell'=true:=by
 cases v<;>first
  |rfl
  |exact hv.2
theorem zfw{v:Value}{x:SV}(h:ziA v=some x)(ρ:Nat→Ph):c0 ρ x=v:=by
 unfold ziA at h
 split at h<;>first
  |(obtain rfl:=zuw h;rfl)
  |(cases h;done)
  |(rename_i f a b
    split at h
    ·rename_i ha;split at h
     ·rename_i hb;obtain rfl:=zuw h;rw[zwg ha,zwg hb];rfl
     ·cases h
    ·cases h)
theorem zjW{v:Value}{x:SV}(h:ziA v=some x)(ρ:Nat→Ph)(n:Nat):wf ρ n x:=by
 unfold ziA at h
 split at h<;>first
  |(obtain rfl:=zuw h;exact trivial)
  |(cases h;done)
  |(split at h
    ·split at h
     ·obtain rfl:=zuw h;exact trivial
     ·cases h
    ·cases h)
theorem zfu:∀{l:List Value} {xs:List SV},zft l=some xs→∀ρ:Nat→Ph,xs.map (c0 ρ)=l
 |[],xs,h,ρ=>by simp only[zft,zuu] at h;subst h;rfl
 |v::r,xs,h,ρ=>by
  simp only[zft] at h;split at h
  ·rename_i x hx;obtain⟨ys,hy,rfl⟩:=zuy.1 h;simp only[zuS];rw[zfw hx,zfu hy]
  ·cases h
theorem zfv:∀{l:List Value} {xs:List SV},zft l=some xs→∀(ρ:Nat→Ph) (n:Nat),∀v∈xs,wf ρ n v
 |[],xs,h,ρ,n=>by simp only[zft,zuu] at h;subst h;simp
 |v::r,xs,h,ρ,n=>by
  simp only[zft] at h;split at h
  ·rename_i x hx;obtain⟨ys,hy,rfl⟩:=zuy.1 h;intro u hu;rcases zuO.1 hu with rfl|hu
   ·exact zjW hx ρ n
   ·exact zfv hy ρ n u hu
  ·cases h
theorem zpI{v:Value}{x:FV}(h:zmJ v=some x)(ρ:Nat→Ph):cv ρ x=v:=by
 unfold zmJ at h;split at h
 ·rename_i cs;obtain⟨l,hl,rfl⟩:=zuy.1 h;simp only[cv];rw[zfu hl]
 ·obtain⟨l,hl,rfl⟩:=zuy.1 h;exact zfw hl ρ
theorem zpJ{v:Value}{x:FV}(h:zmJ v=some x)(ρ:Nat→Ph)(n:Nat):wf1 ρ n x:=by
 unfold zmJ at h;split at h
 ·rename_i cs;obtain⟨l,hl,rfl⟩:=zuy.1 h;exact zfv hl ρ n
 ·obtain⟨l,hl,rfl⟩:=zuy.1 h;exact zjW hl ρ n
structure FrR(ρ:Nat→Ph)(n N:Nat)(fr:Fr)(a:Act):Prop where
 size:a.tmps.size=N
 defers:a.defers=[]
 get:∀t v,yi fr t=some v→t<N∧a.tmps.getD t undef=cv ρ v∧wfV ρ n v
theorem FrR.ext{ρ ρ':Nat→Ph}{n m N:Nat}{fr:Fr}{a:Act}(h:FrR ρ n N fr a)(he:Ext n ρ ρ')(hm:n≤m):FrR ρ' m N fr a:=
 ⟨h.size,h.defers,fun t v hv=>by
   obtain⟨h1,h2,h3⟩:=h.get t v hv;exact⟨h1,h2.trans (zsU he h3).symm,za8 he hm h3⟩⟩
theorem QN{xs:Array Value}{d:Nat}{v:Value}(h:d<xs.size):(xs.setIfInBounds d v).getD d undef=v:=by simp[zvC,zwT,h]
theorem Zj{xs:Array Value}{d t:Nat}{v:Value}(h:d≠t):(xs.setIfInBounds d v).getD t undef=xs.getD t undef:=by simp[zvC,zwT,h]
theorem FrR.put{ρ:Nat→Ph}{n N:Nat}{fr:Fr}{a:Act}(h:FrR ρ n N fr a){d:Option Nat}(hd:∀t,d=some t→t<N){v:FV}(hv:wfV ρ n v):
 FrR ρ n N (qs fr d (some v)) (a.put d (cv ρ v)):=by
 cases d with
 |none=>exact h
 |some t=>
  have ht:=hd t rfl;refine⟨by simp[Act.put,h.size],h.defers,fun u x hx=> ?_⟩;simp only[qs,yi] at hx;by_cases e:u=t
  ·subst e;rw[zuF rfl] at hx;obtain rfl:=zuw hx;exact⟨ht,QN (by rw[h.size];exact ht),hv⟩
  ·rw[zuH e] at hx;obtain⟨h1,h2,h3⟩:=h.get u x hx;exact⟨h1,(Zj (Ne.symm e)).trans h2,h3⟩
theorem FrR.drop{ρ:Nat→Ph}{n N:Nat}{fr:Fr}{a:Act}(h:FrR ρ n N fr a)(d:Option Nat)(x:Value):FrR ρ n N (qs fr d none) (a.put d x):=by
 cases d with
 |none=>exact h
 |some t=>
  refine⟨by simp[Act.put,h.size],h.defers,fun u y hx=> ?_⟩;simp only[qs,yi] at hx;by_cases e:u=t
  ·rw[zuF e] at hx;cases hx
  ·rw[zuH e] at hx;obtain⟨h1,h2,h3⟩:=h.get u y hx;exact⟨h1,(Zj (Ne.symm e)).trans h2,h3⟩
theorem zeC{fr:Fr}{keep:List Nat}{t:Nat}{v:FV}(h:yi (zk keep fr) t=some v):yi fr t=some v:=by
 induction keep with
 |nil=>cases h
 |cons k r ih=>
  simp only[zk,zuS,yi] at h;by_cases e:t=k
  ·rw[zuF e] at h;rw[e];exact h
  ·rw[zuH e] at h;exact ih h
theorem FrR.keep{ρ:Nat→Ph}{n N:Nat}{fr:Fr}{a:Act}(h:FrR ρ n N fr a)(keep:List Nat):FrR ρ n N (zk keep fr) a:=
 ⟨h.size,h.defers,fun t v hv=>h.get t v (zeC hv)⟩
theorem yZ{ρ:Nat→Ph}{n N:Nat}{fr:Fr}{a:Act}(h:FrR ρ n N fr a){x:Operand}{y:OD}(hc:zj x=some y){v:FV}(hv:odE fr y=some v):a.eval x=cv ρ v∧wfV ρ n v:=by
 cases x with
 |tmp t=>
  simp only[zj,zuu] at hc;subst hc;obtain⟨_,h2,h3⟩:=h.get t v hv;exact⟨h2,h3⟩
 |const u=>
  obtain⟨z,hz,rfl⟩:=zuy.1 hc;simp only[odE,zuu] at hv;subst hv;exact⟨(zpI hz ρ).symm,Jj (zpJ hz ρ n)⟩
 |global g=>cases hc
 |func f=>
  simp only[zj,zuu] at hc;subst hc;simp only[odE,zuu] at hv;subst hv;exact⟨rfl,trivial⟩
theorem zdK{fr:Fr}{y:OD}{v:SV}(h:odS fr y=some v):odE fr y=some (.s v):=by
 unfold odS at h;split at h
 ·rename_i u hu;obtain rfl:=zuw h;exact hu
 ·cases h
theorem zh{ρ:Nat→Ph}{n N:Nat}{fr:Fr}{a:Act}(h:FrR ρ n N fr a){x:Operand}{y:OD}(hc:zj x=some y){v:SV}(hv:odS fr y=some v):a.eval x=c0 ρ v∧wf ρ n v:=
 yZ h hc (zdK hv)
def LO.holds:LO→Bool
 | .own _ _=>true
 | .map _=>true
 | .iter _ _=>true
 |_=>false
def LO.whole:LO→Bool
 | .map _=>true
 | .iter _ _=>true
 |_=>false
theorem zhk{v:SV}(h:∃q,Jq q v=true):nlS v=true:=by
 obtain⟨q,h⟩:=h;cases v<;>first|rfl|cases h
theorem zsi{ρ ρ':Nat→Ph}{v:SV}(h:nlS v=true):c0 ρ' v=c0 ρ v:=by cases v<;>first|rfl|cases h
theorem J3{ρ:Nat→Ph}{n:Nat}{v:SV}(h:nlS v=true):wf ρ n v:=by cases v<;>first|trivial|cases h
theorem znX{ρ ρ':Nat→Ph}{es:List (SV×SV)}(h:∀x∈es,(∃q,Jq q x.1=true)∧nlS x.2=true):(es.map fun x=>(c0 ρ' x.1,c0 ρ' x.2))=es.map fun x=>(c0 ρ x.1,c0 ρ x.2):=
 zvj fun x hx=>by rw[zsi (ρ':=ρ') (ρ:=ρ) (zhk (h x hx).1),zsi (ρ':=ρ') (ρ:=ρ) (h x hx).2]
def QU(P:Program)(B:Nat)(ρ:Nat→Ph)(n:Nat)(p:Ph)(w:World):LO→Prop
 | .own t vs=>B≤p.blk∧p.blk<w.heap.size∧p.sz=P.cellsOf t∧w.there p.blk p.base (p.cap*p.sz)∧w.rangeAt p.blk p.base (vs.map (c0 ρ))∧vs.length≤p.cap*p.sz∧∀v∈vs,wf ρ n v
 | .ro t vs=>p.blk<B∧p.sz=P.cellsOf t∧w.rangeAt p.blk p.base (vs.map (c0 ρ))∧∀v∈vs,wf ρ n v
 | .dead=>True
 | .clo f a b=>p.val= .func (.func f) (a.map (c1 ρ)).toArray (b.map (c1 ρ)).toArray∧(∀v∈a,wf1 ρ n v)∧∀v∈b,wf1 ρ n v
 | .ifc t v=>p.val= .iface t (c1 ρ v)∧wf1 ρ n v
 | .map es=>B≤p.blk∧p.blk<w.heap.size∧(∃ms,w.heap[p.blk]? =some (.map ms ms.size)∧ms.toList.map (fun e=>(e.key,e.val))=es.map (fun x=>(c0 ρ x.1,c0 ρ x.2))∧ms.toList.map (·.born)=List.range ms.size)∧∀x∈es,(∃q,Jq q x.1=true)∧nlS x.2=true
 | .iter s pos=>B≤p.blk∧p.blk<w.heap.size∧p.base=0∧w.heap[p.blk]? =some (.stringIter s pos)
structure Base where
 w:World
 B:Nat
 F:Nat→Prop
 dr:Bool
structure BelD(d:Bool)(B:Nat)(w w':World):Prop extends Below B w w' where
 drawn:d=true→w.drawn≤w'.drawn
theorem zed(w:World)(a:Addr)(v:Value):(w.setCell a v).drawn=w.drawn:=by
 unfold World.setCell
 repeat' split
 all_goals rfl
theorem ZH:∀(vs:List Value) (w:World) (g o:Nat),(w.setCells g o vs).drawn=w.drawn
 |[],w,g,o=>rfl
 |v::r,w,g,o=>(ZH r _ g (o+1)).trans (zed _ _ _)
theorem BelD.refl(d:Bool)(B:Nat)(w:World):BelD d B w w:=⟨Below.refl _ _,fun _=>zuB _⟩
theorem BelD.tr{d:Bool}{B:Nat}{a b c:World}(h:BelD d B a b)(k:Below B b c)(hd:d=true→b.drawn≤c.drawn):BelD d B a c:=⟨h.toBelow.trans k,fun e=>zvp (h.drawn e) (hd e)⟩
theorem BelD.trans{d:Bool}{B:Nat}{a b c:World}(h:BelD d B a b)(k:BelD d B b c):BelD d B a c:=h.tr k.toBelow k.drawn
theorem BelD.alloc{d:Bool}{B:Nat}{a w:World}(h:BelD d B a w)(hB:B≤w.heap.size)(o:Obj):BelD d B a (w.alloc o):=⟨h.toBelow.alloc hB o,h.drawn⟩
structure Rel(P:Program)(w0:Base)(ρ:Nat→Ph)(h:LH)(w:World):Prop where
 below:BelD w0.dr w0.B w0.w w
 hB:w0.B≤w0.w.heap.size
 keep:∀k,w0.F k→k<w0.w.heap.size∧w.heap[k]? =w0.w.heap[k]?
 out:∀i o,h[i]? =some o→o.holds=true→¬w0.F (ρ i).blk
 obj:∀i o,h[i]? =some o→QU P w0.B ρ h.length (ρ i) w o
 inj:∀i j o o',h[i]? =some o→h[j]? =some o'→i≠j→o.holds=true→o'.holds=true→(ρ i).blk≠(ρ j).blk
variable {P:Program} {w0:Base}
theorem Rel.size{ρ:Nat→Ph}{h:LH}{w:World}(r:Rel P w0 ρ h w):w0.B≤w.heap.size:=zvp r.hB r.below.size
theorem QU.moved{B n m:Nat}{ρ ρ':Nat→Ph}{p:Ph}{w w':World}{o:LO}(h:QU P B ρ n p w o)(he:Ext n ρ ρ')(hm:n≤m)(hs:w.heap.size≤w'.heap.size)
 (hc:(o.holds=true∨p.blk<B)→∀j v,w.cell? ⟨p.blk,j,none⟩=some v→w'.cell? ⟨p.blk,j,none⟩=some v) (hf:o.holds=true→∀j,w'.frozen? ⟨p.blk,j,none⟩=w.frozen? ⟨p.blk,j,none⟩) (hwh:o.whole=true→w'.heap[p.blk]? =w.heap[p.blk]?):
   QU P B ρ' m p w' o:=by
 cases o with
 |own t vs=>
  obtain⟨h1,h2,h3,h4,h5,h6,h7⟩:=h;refine⟨h1,by omega,h3,fun j hj=> ?_,fun j v hv=> ?_,h6,fun v hv=>Jk he hm (h7 v hv)⟩
  ·obtain⟨q1,q2⟩:=h4 j hj;obtain⟨u,hu⟩:=zvV.1 q1;exact⟨by rw[hc (.inl rfl) _ u hu];rfl,by rw[hf rfl];exact q2⟩
  ·rw[qY he h7] at hv;exact hc (.inl rfl) _ _ (h5 j v hv)
 |ro t vs=>
  obtain⟨h1,h2,h3,h4⟩:=h;refine⟨h1,h2,fun j v hv=> ?_,fun v hv=>Jk he hm (h4 v hv)⟩;rw[qY he h4] at hv;exact hc (.inr h1) _ _ (h3 j v hv)
 |dead=>trivial
 |clo f a b=>
  obtain⟨h1,h2,h3⟩:=h;refine⟨?_,fun v hv=>Ji he hm (h2 v hv),fun v hv=>Ji he hm (h3 v hv)⟩;rw[h1,zvj fun v hv=>QX he (h2 v hv),zvj fun v hv=>QX he (h3 v hv)]
 |ifc t v=>
  obtain⟨h1,h2⟩:=h;exact⟨by rw[h1,QX he h2],Ji he hm h2⟩
 |map es=>
  obtain⟨h1,h2,⟨ms,h3,h4,h6⟩,h5⟩:=h;exact⟨h1,by omega,⟨ms,by rw[hwh rfl];exact h3,by rw[h4];exact(znX h5).symm,h6⟩,h5⟩
 |iter s p=>
  obtain⟨h1,h2,h3,h4⟩:=h;exact⟨h1,by omega,h3,by rw[hwh rfl];exact h4⟩
theorem Rel.drewN{ρ:Nat→Ph}{h:LH}{w:World}(r:Rel P w0 ρ h w)(k:Nat):Rel P w0 ρ h (w.drewN k):=
 ⟨⟨⟨r.below.os,r.below.tape,r.below.output,r.below.size,r.below.block⟩,fun e=>zvp (r.below.drawn e) (zwD _ _)⟩,r.hB,r.keep,r.out,fun i o hi=>(r.obj i o hi).moved (Ext.refl _ _) (zuB _) (zuB _) (fun _ _ _ hv=>hv) (fun _ _=>rfl) (fun _=>rfl),r.inj⟩
theorem Rel.drew{ρ:Nat→Ph}{h:LH}{w:World}(r:Rel P w0 ρ h w):Rel P w0 ρ h w.drew:=r.drewN 1
def upd(ρ:Nat→Ph)(n:Nat)(p:Ph):Nat→Ph:=fun i=>if i=n then p else ρ i
theorem zx(ρ:Nat→Ph)(n:Nat)(p:Ph):upd ρ n p n=p:=zuF rfl
theorem yw(ρ:Nat→Ph)(n:Nat)(p:Ph):Ext n ρ (upd ρ n p):=fun i hi=>zuH (by omega)
theorem yC{h:LH}{i:Nat}{o:LO}(hi:h[i]? =some o):i<h.length:=(zuz.1 hi).1
theorem Rel.pseudo{ρ:Nat→Ph}{h:LH}{w:World}(r:Rel P w0 ρ h w)(p:Ph)(o:LO)(hh:o.holds=false)
 (ho:QU P w0.B (upd ρ h.length p) (h.length+1) p w o):Rel P w0 (upd ρ h.length p) (h++[o]) w:=by
 have he:=yw ρ h.length p;have key:∀(i:Nat) (o':LO),(h++[o])[i]? =some o'→o'.holds=true→h[i]? =some o':=by
  intro i o' hi hk;rcases zwc i h.length with hlt|hge
  ·rwa [zuA hlt] at hi
  ·have hlt:=yC hi;rw[zuD,zuI] at hlt;obtain rfl:i=h.length:=by omega
   rw[zuC (zuB _),zvy] at hi;obtain rfl:=zuw hi;rw[hh] at hk;cases hk
 refine⟨r.below,r.hB,r.keep,fun i o' hi hk=>by have a:=key i o' hi hk;rw[he i (yC a)];exact r.out i o' a hk,fun i o' hi=> ?_,fun i j o1 o2 hi hj hne k1 k2=> ?_⟩
 ·rw[zuD,zuI];rcases zwc i h.length with hlt|hge
  ·rw[zuA hlt] at hi;rw[he i hlt];exact(r.obj i o' hi).moved he (by omega) (zuB _) (fun _ _ _ hv=>hv) (fun _ _=>rfl) (fun _=>rfl)
  ·have hlt:=yC hi;rw[zuD,zuI] at hlt;obtain rfl:i=h.length:=by omega
   rw[zuC (zuB _),zvy] at hi;obtain rfl:=zuw hi;rw[zx];exact ho
 ·have a:=key i o1 hi k1;have b:=key j o2 hj k2;rw[he i (yC a),he j (yC b)];exact r.inj i j o1 o2 a b hne k1 k2
theorem Rel.alloc{ρ:Nat→Ph}{h:LH}{w:World}(r:Rel P w0 ρ h w)(t:Nat)(c:Array Value)(vs:List SV)(cap:Nat)
 (hsz:c.size=cap*P.cellsOf t) (hvs:vs.length≤cap*P.cellsOf t) (hc:∀(j:Nat) (v:SV),vs[j]? =some v→c[j]? =some (c0 ρ v)) (hw:∀v∈vs,wf ρ h.length v):
 Rel P w0 (upd ρ h.length ⟨w.heap.size,0,P.cellsOf t,cap,undef⟩) (h++[.own t vs]) (w.alloc (.cells c t)):=by
 have he:=yw ρ h.length ⟨w.heap.size,0,P.cellsOf t,cap,undef⟩;have hsize:(w.alloc (.cells c t)).heap.size=w.heap.size+1:=by show(w.heap.push _).size=_;rw[zwH]
 refine⟨r.below.alloc r.size _,r.hB,fun k hk=> ?_,fun i o' hi hk=> ?_,fun i o' hi=> ?_,fun i j o1 o2 hi hj hne k1 k2=> ?_⟩
 ·obtain⟨k1,k2⟩:=r.keep k hk;refine⟨k1,?_⟩;rw[←k2];have:k<w.heap.size:=zvo k1 r.below.size;show(w.heap.push _)[k]? =_;rw[Array.getElem?_push_lt this,zvu this]
 ·rcases zwc i h.length with hlt|hge
  ·rw[zuA hlt] at hi;rw[he i hlt];exact r.out i o' hi hk
  ·have hlt:=yC hi;rw[zuD,zuI] at hlt;obtain rfl:i=h.length:=by omega
   rw[zx];intro hF;have:=(r.keep _ hF).1;have:=r.below.size;simp only at *;omega
 ·rw[zuD,zuI];rcases zwc i h.length with hlt|hge
  ·rw[zuA hlt] at hi;rw[he i hlt];have hlt':(o'.holds=true∨(ρ i).blk<w0.B)→(ρ i).blk<w.heap.size:=by
    rintro(hk|hk)
    ·have:=r.obj i o' hi
     cases o'<;>simp[LO.holds] at hk<;>first
      |exact this.2.1
    ·have:=r.size;omega
   refine(r.obj i o' hi).moved he (by omega) (by omega) (fun hk j v hv=> ?_) (fun hk j=> ?_) (fun hk=> ?_)
   ·rw[World.cell?_alloc_lt _ _ _ (hlt' hk)];exact hv
   ·exact World.frozen?_alloc_past _ _ _ (hlt' (.inl hk))
   ·have hl:(ρ i).blk<w.heap.size:=hlt' (.inl (by cases o'<;>first|rfl|cases hk));show(w.heap.push _)[(ρ i).blk]? =_;rw[Array.getElem?_push_lt hl,zvu hl]
  ·have hlt:=yC hi;rw[zuD,zuI] at hlt;obtain rfl:i=h.length:=by omega
   rw[zuC (zuB _),zvy] at hi;obtain rfl:=zuw hi;rw[zx];refine⟨r.size,by rw[hsize];exact zww _,rfl,fun j hj=> ?_,fun j v hv=> ?_,hvs,fun v hv=>Jk he (by omega) (hw v hv)⟩
   ·simp only[zve];refine⟨?_,World.frozen?_alloc_new _ _ _ _⟩;rw[World.cell?_alloc_new,zvu (by rw[hsz];exact hj)];rfl
   ·simp only[zve];rw[qY he hw,zvv] at hv;obtain⟨x,hx,rfl⟩:=zuy.1 hv;rw[World.cell?_alloc_new];exact hc j x hx
 ·have key:∀(i:Nat) (o':LO),(h++[LO.own t vs])[i]? =some o'→(i<h.length∧h[i]? =some o')∨i=h.length:=by
   intro i o' hi;rcases zwc i h.length with hlt|hge
   ·rw[zuA hlt] at hi;exact .inl ⟨hlt,hi⟩
   ·have hlt:=yC hi;rw[zuD,zuI] at hlt;exact .inr (by omega)
  have old:∀(i:Nat) (o':LO),h[i]? =some o'→o'.holds=true→(ρ i).blk<w.heap.size:=by
   intro i o' hi hk;have:=r.obj i o' hi
   cases o'<;>simp[LO.holds] at hk<;>first
    |exact this.2.1
  rcases key i o1 hi with⟨l1,a⟩|rfl<;>rcases key j o2 hj with⟨l2,b⟩|rfl
  ·rw[he i l1,he j l2];exact r.inj i j o1 o2 a b hne k1 k2
  ·rw[he i l1,zx];have:=old i o1 a k1;exact Nat.ne_of_lt this
  ·rw[he j l2,zx];have:=old j o2 b k2;exact Nat.ne_of_gt this
  ·exact absurd rfl hne
theorem Qi:∀(l vs:List SV) (o:Nat),(qj vs o l).length=vs.length
 |[],vs,o=>rfl
 |c::r,vs,o=>by rw[qj,Qi r];simp
theorem zd0:∀(l vs:List SV) (o:Nat),o+l.length≤vs.length→∀j,(qj vs o l)[j]? =if o≤j∧j<o+l.length then l[j-o]? else vs[j]?
 |[],vs,o,_,j=>by
  simp only[qj,zvY,zv1];rw[zuH (by omega)]
 |c::r,vs,o,h,j=>by
  rw[zvk] at h;rw[qj,zd0 r (vs.set o c) (o+1) (by rw[zvf];omega) j,zvk];by_cases h1:o+1≤j∧j<o+1+r.length
  ·rw[zuF h1,zuF (by omega),show j-o=(j-(o+1))+1 by omega,zvI]
  ·rw[zuH h1];by_cases h2:j=o
   ·subst h2;rw[zuF (by omega),zvy,zvl,zuQ (by omega)]
   ·rw[zuH (by omega),zuG (Ne.symm h2)]
theorem zid{l vs:List SV}{o:Nat}(h:o+l.length≤vs.length){v:SV}(hv:v∈qj vs o l):v∈vs∨v∈l:=by
 obtain⟨j,hj⟩:=zwF.1 hv;rw[zd0 l vs o h j] at hj;split at hj
 ·exact .inr (zvh hj)
 ·exact .inl (zvh hj)
theorem Zc{b k:Nat}(hk:k≠b):∀(vs:List Value) (o:Nat) (w:World),(w.setCells b o vs).heap[k]? =w.heap[k]?
 |[],o,w=>rfl
 |v::r,o,w=>by rw[World.setCells,Zc hk r];simp[World.setCell,Array.getElem?_modify,Ne.symm hk]
theorem Rel.keepSet{ρ:Nat→Ph}{h:LH}{w:World}(r:Rel P w0 ρ h w){i:Nat}{o:LO}(hi:h[i]? =some o)(hh:o.holds=true)(x:Nat)(l:List Value):∀k,w0.F k→k<w0.w.heap.size∧(w.setCells (ρ i).blk x l).heap[k]? =w0.w.heap[k]? :=by intro k hk;obtain⟨k1,k2⟩:=r.keep k hk;refine⟨k1,?_⟩;have hne:k≠(ρ i).blk:=fun e=>r.out i o hi hh (by rw[←e];exact hk);rw[Zc hne,k2]
theorem Rel.store{ρ:Nat→Ph}{h:LH}{w:World}(r:Rel P w0 ρ h w){i t:Nat}{vs l:List SV}{o:Nat}(hi:h[i]? =some (.own t vs))(hl:o+l.length≤vs.length)(hw:∀v∈l,wf ρ h.length v):
 Rel P w0 ρ (h.set i (.own t (qj vs o l))) (w.setCells (ρ i).blk ((ρ i).base+o) (l.map (c0 ρ))):=by
 have hob:=r.obj i _ hi;obtain⟨b1,b2,b3,b4,b5,b6,b7⟩:=hob;have hsome:∀j,j<(l.map (c0 ρ)).length→(w.cell? ⟨(ρ i).blk,(ρ i).base+o+j,none⟩).isSome=true:=by
  intro j hj;rw[zuY] at hj;have:=(b4 (o+j) (by omega)).1
  rwa [←zv7] at this
 have key0:∀(j:Nat) (o':LO),(h.set i (LO.own t (qj vs o l)))[j]? =some o'→o'.holds=true→∃o'',h[j]? =some o''∧o''.holds=true:=by
  intro j o' hj hk;by_cases e:j=i
  ·subst e;exact⟨_,hi,rfl⟩
  ·rw[zuG (Ne.symm e)] at hj;exact⟨o',hj,hk⟩
 refine⟨r.below.tr ((Go.Lib.below_setCells_w b1 _ _ _).mono (zuB _)) (fun _=>Nat.le_of_eq (ZH _ _ _ _).symm),r.hB,r.keepSet hi rfl _ _,fun j o' hj hk=>by obtain⟨p,a1,a2⟩:=key0 j o' hj hk;exact r.out j p a1 a2,fun j o' hj=> ?_,fun j k o1 o2 hj hk hne k1 k2=> ?_⟩
 ·rw[zvf];by_cases e:j=i
  ·subst e;rw[zuQ (yC hi)] at hj;obtain rfl:=zuw hj;refine⟨b1,by rw[size_setCells_w];exact b2,b3,World.there_setCells b4 _ _ _,fun k v hv=> ?_,by rw[Qi];exact b6,fun v hv=>(zid hl hv).elim (b7 v) (hw v)⟩;rw[zvv,zd0 l vs o hl k] at hv;by_cases c:o≤k∧k<o+l.length
   ·rw[zuF c] at hv;have hlt:k-o<(l.map (c0 ρ)).length:=by rw[zuY];omega
    have:=World.cell?_setCells_in (ρ j).blk (l.map (c0 ρ)) ((ρ j).base+o) w hsome (k-o) hlt;rw[show(ρ j).base+o+(k-o)=(ρ j).base+k by omega] at this;rw[this,←hv,←zvv,zuJ hlt]
   ·rw[zuH c,←zvv] at hv;rw[World.cell?_setCells_out _ _ _ _ _ (fun _ _=>by simp only[zuY];omega)];exact b5 k v hv
  ·rw[zuG (Ne.symm e)] at hj;refine(r.obj j o' hj).moved (Ext.refl _ _) (zuB _) (by rw[size_setCells_w];exact zuB _) (fun hk k v hv=> ?_) (fun _ _=>World.frozen?_setCells _ _ _ _ _) (fun hk=> ?_)
   ·rw[World.cell?_setCells_out _ _ _ _ _ (fun hb _=> ?_)]
    ·exact hv
    ·exfalso;rcases hk with hk|hk
     ·exact r.inj j i o' _ hj hi e hk rfl hb
     ·simp only at hb;omega
   ·exact Zc (r.inj j i o' _ hj hi e (by cases o'<;>first|rfl|cases hk) rfl) _ _ _
 ·have key:∀(j:Nat) (o':LO),(h.set i (LO.own t (qj vs o l)))[j]? =some o'→o'.holds=true→∃o'',h[j]? =some o''∧o''.holds=true:=by
   intro j o' hj hk;by_cases e:j=i
   ·subst e;exact⟨_,hi,rfl⟩
   ·rw[zuG (Ne.symm e)] at hj;exact⟨o',hj,hk⟩
  obtain⟨p1,a1,a2⟩:=key j o1 hj k1;obtain⟨p2,c1,c2⟩:=key k o2 hk k2;exact r.inj j k p1 p2 a1 c1 hne a2 c2
where
 size_setCells_w:∀{b o:Nat} {vs:List Value} {w:World},(w.setCells b o vs).heap.size=w.heap.size:=by
  intro b o vs w
  induction vs generalizing o w with
  |nil=>rfl
  |cons v r ih=>rw[World.setCells,ih];simp[World.setCell]
theorem Rel.kill{ρ:Nat→Ph}{h:LH}{w:World}(r:Rel P w0 ρ h w)(i:Nat):Rel P w0 ρ (h.set i .dead) w:=by
 have key:∀(j:Nat) (o':LO),(h.set i LO.dead)[j]? =some o'→o'= .dead∨h[j]? =some o':=by
  intro j o' hj;by_cases e:j=i
  ·subst e;have:=yC hj;rw[zvf] at this;rw[zuQ this] at hj;exact .inl (zuw hj).symm
  ·rw[zuG (Ne.symm e)] at hj;exact .inr hj
 refine⟨r.below,r.hB,r.keep,fun j o' hj hk=>by
  rcases key j o' hj with rfl|hj
  ·cases hk
  ·exact r.out j o' hj hk,fun j o' hj=> ?_,fun j k o1 o2 hj hk hne k1 k2=> ?_⟩
 ·rw[zvf];rcases key j o' hj with rfl|hj
  ·trivial
  ·exact r.obj j o' hj
 ·rcases key j o1 hj with rfl|hj
  ·cases k1
  ·rcases key k o2 hk with rfl|hk
   ·cases k2
   ·exact r.inj j k o1 o2 hj hk hne k1 k2
theorem Rel.inplace{ρ:Nat→Ph}{h:LH}{w:World}(r:Rel P w0 ρ h w){i t:Nat}{vs new:List SV}{o m n:Nat}(hi:h[i]? =some (.own t vs))(hom:(o+m)*(ρ i).sz≤vs.length)(hn:new.length=n*(ρ i).sz)
 (hcap:o+m+n≤(ρ i).cap) (hw:∀v∈new,wf ρ h.length v):
 Rel P w0 (upd ρ h.length ⟨(ρ i).blk,(ρ i).base+o*(ρ i).sz,(ρ i).sz,(ρ i).cap-o,undef⟩) (h.set i .dead++[.own t ((vs.drop (o*(ρ i).sz)).take (m*(ρ i).sz)++new)])
  (w.setCells (ρ i).blk ((ρ i).base+o*(ρ i).sz+m*(ρ i).sz) (new.map (c0 ρ))):=by
 have he:=yw ρ h.length ⟨(ρ i).blk,(ρ i).base+o*(ρ i).sz,(ρ i).sz,(ρ i).cap-o,undef⟩;obtain⟨b1,b2,b3,b4,b5,b6,b7⟩:=r.obj i _ hi;have hil:=yC hi;have hlen:(h.set i LO.dead++[LO.own t ((vs.drop (o*(ρ i).sz)).take (m*(ρ i).sz)++new)]).length=h.length+1:=by simp
 have hmul:(o+m+n)*(ρ i).sz≤(ρ i).cap*(ρ i).sz:=zvd _ hcap;have hmul2:o*(ρ i).sz+((ρ i).cap-o)*(ρ i).sz=(ρ i).cap*(ρ i).sz:=by rw[←zvr];congr 1;omega
 rw[zvr,zvr] at hmul;rw[zvr] at hom;have hsome:∀j,j<(new.map (c0 ρ)).length→(w.cell? ⟨(ρ i).blk,(ρ i).base+o*(ρ i).sz+m*(ρ i).sz+j,none⟩).isSome=true:=by intro j hj;rw[zuY] at hj;have:=(b4 (o*(ρ i).sz+m*(ρ i).sz+j) (by omega)).1;rw[show(ρ i).base+o*(ρ i).sz+m*(ρ i).sz+j=(ρ i).base+(o*(ρ i).sz+m*(ρ i).sz+j) by omega];exact this
 have hclen:((vs.drop (o*(ρ i).sz)).take (m*(ρ i).sz)).length=m*(ρ i).sz:=by rw[zuR,zvL];omega
 have key:∀(j:Nat) (o':LO),(h.set i LO.dead++[LO.own t ((vs.drop (o*(ρ i).sz)).take (m*(ρ i).sz)++new)])[j]? =some o'→(j<h.length∧(o'= .dead∨(j≠i∧h[j]? =some o')))∨(j=h.length∧o'= .own t ((vs.drop (o*(ρ i).sz)).take (m*(ρ i).sz)++new)):=by
  intro j o' hj;have hlt:=yC hj;rw[hlen] at hlt;rcases zwc j h.length with hl|hg
  ·rw[zuA (by rw[zvf];exact hl)] at hj;by_cases e:j=i
   ·subst e;rw[zuQ hl] at hj;exact .inl ⟨hl,.inl (zuw hj).symm⟩
   ·rw[zuG (Ne.symm e)] at hj;exact .inl ⟨hl,.inr ⟨e,hj⟩⟩
  ·obtain rfl:j=h.length:=by omega
   rw[zuC (by rw[zvf];exact zuB _),zvf,zvy] at hj;exact .inr ⟨rfl,(zuw hj).symm⟩
 refine⟨r.below.tr ((Go.Lib.below_setCells_w b1 _ _ _).mono (zuB _)) (fun _=>Nat.le_of_eq (ZH _ _ _ _).symm),r.hB,r.keepSet hi rfl _ _,fun j o' hj hk=>by
  rcases key j o' hj with⟨hl,rfl|⟨hne,hj⟩⟩|⟨rfl,rfl⟩
  ·cases hk
  ·rw[he j hl];exact r.out j o' hj hk
  ·rw[zx];exact r.out i _ hi rfl,fun j o' hj=> ?_,fun j k o1 o2 hj hk hne k1 k2=> ?_⟩
 ·rw[hlen];rcases key j o' hj with⟨hl,rfl|⟨hne,hj⟩⟩|⟨rfl,rfl⟩
  ·trivial
  ·rw[he j hl];refine(r.obj j o' hj).moved he (by omega) (by rw[Rel.store.size_setCells_w];exact zuB _) (fun hk k v hv=> ?_) (fun _ _=>World.frozen?_setCells _ _ _ _ _) (fun hk=> ?_)
   ·rw[World.cell?_setCells_out _ _ _ _ _ (fun hb _=> ?_)]
    ·exact hv
    ·exfalso;rcases hk with hk|hk
     ·exact r.inj j i o' _ hj hi hne hk rfl hb
     ·simp only at hb;omega
   ·exact Zc (r.inj j i o' _ hj hi hne (by cases o'<;>first|rfl|cases hk) rfl) _ _ _
  ·rw[zx];refine⟨b1,by rw[Rel.store.size_setCells_w];exact b2,b3,fun k hk=> ?_,fun k v hv=> ?_,?_,fun v hv=> ?_⟩
   ·have:=World.there_setCells b4 (ρ i).blk ((ρ i).base+o*(ρ i).sz+m*(ρ i).sz) (new.map (c0 ρ)) (o*(ρ i).sz+k) (by simp only at hk;omega);rw[←zv7] at this;exact this
   ·have hv':((List.map (c0 ρ) ((vs.drop (o*(ρ i).sz)).take (m*(ρ i).sz)++new)))[k]? =some v:=by
     rw[←qY he]
     ·exact hv
     ·intro u hu;rcases zuM.1 hu with hu|hu
      ·exact b7 u (zwe (zvJ hu))
      ·exact hw u hu
    rw[zvg] at hv';rcases zwc k (m*(ρ i).sz) with hk|hk
    ·rw[zuA (by rw[zuY,hclen];exact hk)] at hv';rw[World.cell?_setCells_out _ _ _ _ _ (fun _ _=>by simp only;omega)];rw[zwO,List.map_drop,List.getElem?_take_of_lt hk,zvE] at hv';have:=b5 _ v hv';rw[←zv7] at this;exact this
    ·rw[zuC (by rw[zuY,hclen];exact hk),zuY,hclen] at hv';have hlt:k-m*(ρ i).sz<(new.map (c0 ρ)).length:=(zuz.1 hv').1;have:=World.cell?_setCells_in (ρ i).blk (new.map (c0 ρ)) ((ρ i).base+o*(ρ i).sz+m*(ρ i).sz) w hsome (k-m*(ρ i).sz) hlt;rw[show(ρ i).base+o*(ρ i).sz+m*(ρ i).sz+(k-m*(ρ i).sz)=(ρ i).base+o*(ρ i).sz+k by omega] at this;simp only;rw[this,←hv',zuJ hlt]
   ·rw[zuD,hclen];simp only;omega
   ·rcases zuM.1 hv with hv|hv
    ·exact Jk he (by omega) (b7 v (zwe (zvJ hv)))
    ·exact Jk he (by omega) (hw v hv)
 ·rcases key j o1 hj with⟨l1,rfl|⟨n1,a1⟩⟩|⟨rfl,rfl⟩
  ·cases k1
  ·rcases key k o2 hk with⟨l2,rfl|⟨n2,a2⟩⟩|⟨rfl,rfl⟩
   ·cases k2
   ·rw[he j l1,he k l2];exact r.inj j k o1 o2 a1 a2 hne k1 k2
   ·rw[he j l1,zx];exact r.inj j i o1 _ a1 hi n1 k1 rfl
  ·rcases key k o2 hk with⟨l2,rfl|⟨n2,a2⟩⟩|⟨rfl,rfl⟩
   ·cases k2
   ·rw[he k l2,zx];exact r.inj i k _ o2 hi a2 (Ne.symm n2) rfl k2
   ·exact absurd rfl hne
theorem Rel.newBlk{ρ:Nat→Ph}{h:LH}{w w':World}(r:Rel P w0 ρ h w)(p:Ph)(o:LO)(hp:p.blk=w.heap.size)(hB:Below w0.B w w')(hdr:w0.dr=true→w.drawn≤w'.drawn)(hs:w'.heap.size=w.heap.size+1)(hold:∀k,k<w.heap.size→w'.heap[k]? =w.heap[k]?)
 (ho:QU P w0.B (upd ρ h.length p) (h.length+1) p w' o):Rel P w0 (upd ρ h.length p) (h++[o]) w':=by
 have he:=yw ρ h.length p;have hcell:∀(a:Addr),a.block<w.heap.size→w'.cell? a=w.cell? a:=fun a ha=>by unfold World.cell?;rw[hold _ ha]
 have hfr:∀(a:Addr),a.block<w.heap.size→w'.frozen? a=w.frozen? a:=fun a ha=>by unfold World.frozen?;rw[hold _ ha]
 have old:∀(i:Nat) (o':LO),h[i]? =some o'→o'.holds=true→(ρ i).blk<w.heap.size:=by intro i o' hi hk;have:=r.obj i o' hi;cases o'<;>simp[LO.holds] at hk<;>exact this.2.1
 have key:∀(i:Nat) (o':LO),(h++[o])[i]? =some o'→(i<h.length∧h[i]? =some o')∨(i=h.length∧o'=o):=by
  intro i o' hi;rcases zwc i h.length with hlt|hge
  ·rw[zuA hlt] at hi;exact .inl ⟨hlt,hi⟩
  ·have hlt:=yC hi;rw[zuD,zuI] at hlt;obtain rfl:i=h.length:=by omega
   rw[zuC (zuB _),zvy] at hi;exact .inr ⟨rfl,(zuw hi).symm⟩
 refine⟨r.below.tr hB hdr,r.hB,fun k hk=> ?_,fun i o' hi hk=> ?_,fun i o' hi=> ?_,fun i j o1 o2 hi hj hne k1 k2=> ?_⟩
 ·obtain⟨k1,k2⟩:=r.keep k hk;exact⟨k1,by rw[hold k (zvo k1 r.below.size)];exact k2⟩
 ·rcases key i o' hi with⟨hlt,hi⟩|⟨rfl,rfl⟩
  ·rw[he i hlt];exact r.out i o' hi hk
  ·rw[zx,hp];intro hF;have:=(r.keep _ hF).1;have:=r.below.size;omega
 ·rw[zuD,zuI];rcases key i o' hi with⟨hlt,hi⟩|⟨rfl,rfl⟩
  ·rw[he i hlt];have hlt':(o'.holds=true∨(ρ i).blk<w0.B)→(ρ i).blk<w.heap.size:=by
    rintro(hk|hk)
    ·exact old i o' hi hk
    ·have:=r.size;omega
   exact(r.obj i o' hi).moved he (by omega) (by omega) (fun hk j v hv=>by rw[hcell _ (hlt' hk)];exact hv) (fun hk j=>hfr _ (hlt' (.inl hk))) (fun hk=>hold _ (hlt' (.inl (by cases o'<;>first|rfl|cases hk))))
  ·rw[zx];exact ho
 ·rcases key i o1 hi with⟨l1,a⟩|⟨rfl,rfl⟩<;>rcases key j o2 hj with⟨l2,b⟩|⟨rfl,rfl⟩
  ·rw[he i l1,he j l2];exact r.inj i j o1 o2 a b hne k1 k2
  ·rw[he i l1,zx,hp];exact Nat.ne_of_lt (old i o1 a k1)
  ·rw[he j l2,zx,hp];exact Nat.ne_of_gt (old j o2 b k2)
  ·exact absurd rfl hne
theorem Rel.setBlk{ρ:Nat→Ph}{h:LH}{w w':World}(r:Rel P w0 ρ h w){i:Nat}{o o':LO}(hi:h[i]? =some o)(hh:o.holds=true)(hB:Below w0.B w w')(hdr:w0.dr=true→w.drawn≤w'.drawn)(hs:w'.heap.size=w.heap.size)(hold:∀k,k≠(ρ i).blk→w'.heap[k]? =w.heap[k]?)
 (hlow:w0.B≤(ρ i).blk) (hh':o'.holds=true) (ho:QU P w0.B ρ h.length (ρ i) w' o'):Rel P w0 ρ (h.set i o') w':=by
 have hcell:∀(a:Addr),a.block≠(ρ i).blk→w'.cell? a=w.cell? a:=fun a ha=>by unfold World.cell?;rw[hold _ ha]
 have hfr:∀(a:Addr),a.block≠(ρ i).blk→w'.frozen? a=w.frozen? a:=fun a ha=>by unfold World.frozen?;rw[hold _ ha]
 have key:∀(j:Nat) (x:LO),(h.set i o')[j]? =some x→(j=i∧x=o')∨(j≠i∧h[j]? =some x):=by
  intro j x hj;by_cases e:j=i
  ·subst e;rw[zuQ (yC hi)] at hj;exact .inl ⟨rfl,(zuw hj).symm⟩
  ·rw[zuG (Ne.symm e)] at hj;exact .inr ⟨e,hj⟩
 refine⟨r.below.tr hB hdr,r.hB,fun k hk=> ?_,fun j x hj hk=> ?_,fun j x hj=> ?_,fun j k o1 o2 hj hk hne k1 k2=> ?_⟩
 ·obtain⟨k1,k2⟩:=r.keep k hk;refine⟨k1,?_⟩;rw[hold k (fun e=>r.out i o hi hh (by rw[←e];exact hk))];exact k2
 ·rcases key j x hj with⟨rfl,rfl⟩|⟨e,hj⟩
  ·exact r.out j o hi hh
  ·exact r.out j x hj hk
 ·rw[zvf];rcases key j x hj with⟨rfl,rfl⟩|⟨e,hj⟩
  ·exact ho
  ·have hne:(x.holds=true∨(ρ j).blk<w0.B)→(ρ j).blk≠(ρ i).blk:=by
    rintro(hk|hk)
    ·exact r.inj j i x o hj hi e hk hh
    ·omega
   exact(r.obj j x hj).moved (Ext.refl _ _) (zuB _) (by omega) (fun hk n v hv=>by rw[hcell _ (hne hk)];exact hv) (fun hk n=>hfr _ (hne (.inl hk))) (fun hk=>hold _ (hne (.inl (by cases x<;>first|rfl|cases hk))))
 ·rcases key j o1 hj with⟨rfl,rfl⟩|⟨e1,h1⟩<;>rcases key k o2 hk with⟨rfl,rfl⟩|⟨e2,h2⟩
  ·exact absurd rfl hne
  ·exact r.inj j k o o2 hi h2 hne hh k2
  ·exact r.inj j k o1 o h1 hi hne k1 hh
  ·exact r.inj j k o1 o2 h1 h2 hne k1 k2
theorem Rel.rebase{ρ:Nat→Ph}{h:LH}{w:World}(r:Rel P w0 ρ h w)(F:Nat→Prop)(hF:∀k,F k→k<w.heap.size)(ho:∀i o,h[i]? =some o→o.holds=true→¬F (ρ i).blk):Rel P ⟨w,w0.B,F,w0.dr⟩ ρ h w:=
 ⟨BelD.refl _ _ _,r.size,fun k hk=>⟨hF k hk,rfl⟩,ho,r.obj,r.inj⟩
theorem Rel.unbase{ρ ρ':Nat→Ph}{h h':LH}{w w':World}{F:Nat→Prop}(r:Rel P w0 ρ h w)(hF:∀k,w0.F k→F k)(r':Rel P ⟨w,w0.B,F,w0.dr⟩ ρ' h' w'):Rel P w0 ρ' h' w':=
 ⟨r.below.trans r'.below,r.hB,fun k hk=>⟨(r.keep k hk).1,by rw[(r'.keep k (hF k hk)).2];exact(r.keep k hk).2⟩,fun i o hi hh hk=>r'.out i o hi hh (hF _ hk),r'.obj,r'.inj⟩
theorem Rel.add{ρ:Nat→Ph}{h:LH}{w:World}(r:Rel P w0 ρ h w)(o:LO)(ho:QU P w0.B ρ (h.length+1) (ρ h.length) w o)(hf:o.holds=true→¬w0.F (ρ h.length).blk)
 (hd:o.holds=true→∀i o',h[i]? =some o'→o'.holds=true→(ρ i).blk≠(ρ h.length).blk):Rel P w0 ρ (h++[o]) w:=by
 have key:∀(i:Nat) (o':LO),(h++[o])[i]? =some o'→(i<h.length∧h[i]? =some o')∨(i=h.length∧o'=o):=by
  intro i o' hi;rcases zwc i h.length with hlt|hge
  ·rw[zuA hlt] at hi;exact .inl ⟨hlt,hi⟩
  ·have hlt:=yC hi;rw[zuD,zuI] at hlt;obtain rfl:i=h.length:=by omega
   rw[zuC (zuB _),zvy] at hi;exact .inr ⟨rfl,(zuw hi).symm⟩
 refine⟨r.below,r.hB,r.keep,fun i o' hi hk=> ?_,fun i o' hi=> ?_,fun i j o1 o2 hi hj hne k1 k2=> ?_⟩
 ·rcases key i o' hi with⟨_,a⟩|⟨rfl,rfl⟩
  ·exact r.out i o' a hk
  ·exact hf hk
 ·rw[zuD,zuI];rcases key i o' hi with⟨_,a⟩|⟨rfl,rfl⟩
  ·exact(r.obj i o' a).moved (Ext.refl _ _) (by omega) (zuB _) (fun _ _ _ hv=>hv) (fun _ _=>rfl) (fun _=>rfl)
  ·exact ho
 ·rcases key i o1 hi with⟨_,a⟩|⟨rfl,rfl⟩<;>rcases key j o2 hj with⟨_,b⟩|⟨rfl,rfl⟩
  ·exact r.inj i j o1 o2 a b hne k1 k2
  ·exact hd k2 i o1 a k1
  ·exact Ne.symm (hd k1 j o2 b k2)
  ·exact absurd rfl hne
end
section
variable {P:Program} {w0:Base}
def Res(P:Program)(w0:Base)(ρ:Nat→Ph)(h:LH)(w:World)(s:Sem Next)(v:FV)(h':LH):Prop:=
 ∃r ρ' w',s.run P w= .ok r w'∧(r= .value (cv ρ' v)∨(r= .skip∧cv ρ' v=undef))∧Rel P w0 ρ' h' w'∧Ext h.length ρ ρ'∧h.length≤h'.length∧wfV ρ' h'.length v
section
variable {ρ:Nat→Ph} {h:LH} {w:World} {N:Nat} {fr:Fr} {a:Act}
theorem Res.same{s:Sem Next}{v:FV}(R:Rel P w0 ρ h w)(hs:s.run P w= .ok (.value (cv ρ v)) w)(hv:wfV ρ h.length v):Res P w0 ρ h w s v h:=
 ⟨_,ρ,w,hs,.inl rfl,R,Ext.refl _ _,zuB _,hv⟩
theorem Zn{s:Sem Value}{x:Value}{w w':World}(hs:s.run P w= .ok x w'):(do pure (Next.value (←s)):Sem Next).run P w= .ok (.value x) w':=by simp[hs]
theorem Res.val{s:Sem Value}{v:FV}(R:Rel P w0 ρ h w)(hs:s.run P w= .ok (cv ρ v) w)(hv:wfV ρ h.length v):Res P w0 ρ h w (do pure (Next.value (←s))) v h:=
 Res.same R (Zn hs) hv
theorem zaq{v:FV}{l:List SV}{n:Nat}(hf:jz v=some l)(hv:wfV ρ n v):(cv ρ v).cells=(l.map (c0 ρ)).toArray:=by
 cases v with
 |s v=>
  simp only[jz,zuu] at hf;subst hf;have:=ziH (ρ:=ρ) hv;simp only[cv,zuS,zwa];generalize c0 ρ v=u at *
  cases u<;>first
   |rfl
   |cases this
 |agg l'=>
  simp only[jz,zuu] at hf;subst hf;rfl
 |tup l'=>cases hf
theorem zbN{v:FV}{l:List SV}{n:Nat}(hf:jz v=some l)(hv:wfV ρ n v):∀u∈l,wf ρ n u:=by
 cases v with
 |s v=>
  simp only[jz,zuu] at hf;subst hf;intro u hu;rw[zu9.1 hu];exact hv
 |agg l'=>
  simp only[jz,zuu] at hf;subst hf;exact hv
 |tup l'=>cases hf
theorem zgm{l:List SV}{n:Nat}(hl:∀u∈l,wf ρ n u):∀u∈l.map (c0 ρ),u.oneCell'=true:=by intro u hu;obtain⟨x,hx,rfl⟩:=zvQ.1 hu;exact ziH (hl x hx)
theorem qF{b o:Nat}{cs:List Value}(hr:w.rangeAt b o cs)(k n:Nat):w.rangeAt b (o+k) ((cs.drop k).take n):=by
 intro j v hv;rw[zu8] at hv;split at hv
 ·rw[zvE] at hv;rw[zv7];exact hr _ v hv
 ·cases hv
theorem JX(f:SV→Value)(vs:List SV)(k n:Nat):((vs.map f).drop k).take n=((vs.drop k).take n).map f:=by rw[←List.map_drop,←zwO]
theorem Rel.cells(R:Rel P w0 ρ h w){i t:Nat}{vs:List SV}(hi:cellsOf h i=some (t,vs)):
 w.rangeAt (ρ i).blk (ρ i).base (vs.map (c0 ρ))∧(ρ i).sz=P.cellsOf t∧(∀v∈vs,wf ρ h.length v)∧i<h.length:=by
 unfold cellsOf at hi;split at hi
 ·rename_i t' vs' hh;simp only[zuu,zux] at hi;obtain⟨rfl,rfl⟩:=hi;obtain⟨h1,h2,h3,h4,h5,h6,h7⟩:=R.obj i _ hh;exact⟨h5,h3,h7,yC hh⟩
 ·rename_i t' vs' hh;simp only[zuu,zux] at hi;obtain⟨rfl,rfl⟩:=hi;obtain⟨h1,h2,h3,h4⟩:=R.obj i _ hh;exact⟨h3,h2,h4,yC hh⟩
 ·cases hi
theorem QH{t n:Nat}(ht:QL P t=some (true,n)):(∃d,P.underlying t=some d∧d.isRow=true)∧(P.info? t).map (·.size)=some n:=by
 unfold QL at ht;split at ht
 ·rename_i fs i hu hi;simp only[zuu,zux,true_and] at ht;exact⟨⟨_,hu,rfl⟩,by rw[hi];simp[ht]⟩
 ·rename_i hu hi;simp only[zuu,zux,true_and] at ht;exact⟨⟨_,hu,rfl⟩,by rw[hi];simp[ht]⟩
 ·simp at ht
 ·cases ht
theorem Jh{t n:Nat}(ht:QL P t=some (false,n)):(∃d,P.underlying t=some d∧d.isRow=false)∧(P.info? t).map (·.size)=some n:=by
 unfold QL at ht;split at ht
 ·simp at ht
 ·simp at ht
 ·rename_i d i h1 h2 hu hi;simp only[zuu,zux,true_and] at ht;refine⟨⟨_,hu,?_⟩,by rw[hi];simp[ht]⟩
  cases d<;>first
   |rfl
   |(exfalso;first|exact h1 _ rfl|exact h2 _ _ rfl|exact h1 _ _ rfl|exact h2 _ rfl)
 ·cases ht
theorem Jw{t:Nat}{d:TypeDesc}(hu:P.underlying t=some d)(hd:d.isRow=false):(isAgg t).run P w= .ok false w:=by
 unfold isAgg;rw[zuW,run_underlying hu w]
 cases d<;>first
  |rfl
  |cases hd
theorem zhu(R:Rel P w0 ρ h w)(hF:FrR ρ h.length N fr a){t:TypeId}{x:Operand}{y:OD}{g:Bool}{n:Nat}(ht:QL P t=some (g,n))(hx:zj x=some y){v:FV}{h':LH}
 (he:opE fr h (.load g n y)=some (v,h')):(Instr.loadAt t (a.eval x)).run P w= .ok (cv ρ v) w∧wfV ρ h.length v∧h'=h:=by
 simp only[opE] at he;split at he
 ·rename_i i o hy;obtain⟨e1,e2⟩:=zh hF hx hy;split at he
  ·rename_i t' vs hc;obtain⟨q1,q2,q3,q4⟩:=R.cells hc;cases g with
   |true=>
    rw[zuF rfl] at he;split at he
    ·rename_i hle;simp only[zuu,zux] at he;obtain⟨rfl,rfl⟩:=he;obtain⟨⟨d,hu,hd⟩,hn⟩:=QH ht;refine⟨?_,(fun u hu=>q3 u (zwe (zvJ hu))),rfl⟩;rw[e1];simp only[c0,cv];refine run_loadAt_mid w _ _ t (((vs.drop o).take n).map (c0 ρ)) d ?_ hu hd ?_
     ·rw[←JX];exact qF q1 o n
     ·rw[hn,zuY,zuR,zvL];congr 1;omega
    ·cases he
   |false=>
    rw[zuH (by decide)] at he;split at he
    ·rename_i u hu';simp only[zuu,zux] at he;obtain⟨rfl,rfl⟩:=he;obtain⟨⟨d,hu,hd⟩,hn⟩:=Jh ht;refine⟨?_,q3 u (zvh hu'),rfl⟩;rw[e1];have hcell:=q1 o (c0 ρ u) (by rw[zvv,hu'];rfl);simp only[Instr.loadAt,Instr.sureAddr,c0,loadVar,zuW,zvb,zuL,Jw hu hd,zu0,if_false,run_load,hcell,cv]
    ·cases he
  ·cases he
 ·cases he
theorem zqy(R:Rel P w0 ρ h w)(hF:FrR ρ h.length N fr a){t:TypeId}{x:Operand}{y:OD}{g:Bool}{n:Nat}(ht:QL P t=some (g,n))(hx:zj x=some y){v:FV}{h':LH}
 (he:opE fr h (.load g n y)=some (v,h')):Res P w0 ρ h w (do pure (Next.value (←Instr.loadAt t (a.eval x)))) v h':=by
 obtain⟨q1,q2,rfl⟩:=zhu R hF ht hx he;exact Res.val R q1 q2
theorem zbF{t:TypeId}{b o:Nat}{u:Value}(ht:w.there b o u.cells.size)(hn:(P.info? t).map (·.size)=some u.cells.size)(h1:∀v∈u.cells.toList,v.oneCell'=true):
 (storeVar t ⟨b,o,none⟩ u).run P w= .ok () (w.setCells b o u.cells.toList):=by
 have:=run_storeCells_cells (P:=P) b o u.cells.toList 0 w (fun j hj=>by simpa using(ht j (by simpa using hj)).1) (fun j hj=>by simpa using(ht j (by simpa using hj)).2) h1;cases hq:P.info? t with
 |none=>simp[hq] at hn
 |some i=>
  have hs:u.cells.size=i.size:=by simp[hq] at hn;omega
  simp only[zv1] at this;simp[storeVar,sizeOf,typeInfo,hq,hs,this]
theorem zoB(R:Rel P w0 ρ h w)(hF:FrR ρ h.length N fr a){t:TypeId}{x z:Operand}{y y':OD}{g:Bool}{n:Nat}(ht:QL P t=some (g,n))(hx:zj x=some y)(hz:zj z=some y'){v:FV}{h':LH}
 (he:opE fr h (.store n y y')=some (v,h')):Res P w0 ρ h w (do Instr.storeAt t (a.eval x) (a.eval z);pure Next.skip) v h':=by
 simp only[opE] at he;split at he
 ·rename_i i o l hy hb;obtain⟨e1,e2⟩:=zh hF hx hy;obtain⟨fv,hfv,hl⟩:=zuN.1 hb;obtain⟨e3,e4⟩:=yZ hF hz hfv;split at he
  ·rename_i t' vs hi;split at he
   ·rename_i hn;split at he
    ·rename_i hle;simp only[zuu,zux] at he;obtain⟨rfl,rfl⟩:=he;have hwl:=zbN hl e4;have hcl:=zaq hl e4;obtain⟨b1,b2,b3,b4,b5,b6,b7⟩:=R.obj i _ hi;have hsize:(P.info? t).map (·.size)=some n:=by
      cases g
      ·exact(Jh ht).2
      ·exact(QH ht).2
     refine⟨.skip,ρ,_,?_,.inr ⟨rfl,rfl⟩,R.store hi (l:=l) (o:=o) (by omega) hwl,Ext.refl _ _,by rw[zvf];exact zuB _,fun v hv=>by cases hv⟩;have hlen:(cv ρ fv).cells.size=n:=by rw[hcl];simp[hn]
     have hrun:=zbF (P:=P) (w:=w) (t:=t) (b:=(ρ i).blk) (o:=(ρ i).base+o) (u:=cv ρ fv) (fun j hj=>by
      rw[zv7];exact b4 (o+j) (by omega)) (by rw[hlen];exact hsize) (by rw[hcl];exact zgm hwl)
     rw[e1,e3];simp only[Instr.storeAt,Instr.sureAddr,c0,zuW,zvb,zuL,hrun];rw[hcl]
    ·cases he
   ·cases he
  ·cases he
 ·cases he
theorem zlf{t n:Nat}{g:Bool}(ht:QL P t=some (g,n)):P.cellsOf t=n:=by
 unfold Program.cellsOf;cases g
 ·rw[(Jh ht).2];rfl
 ·rw[(QH ht).2];rfl
theorem zjk(R:Rel P w0 ρ h w){t n:Nat}{g:Bool}(ht:QL P t=some (g,n)){fv:FV}{l:List SV}(hv:wfV ρ h.length fv)(hl:jz fv=some l)(hn:l.length=n){s:Sem Value}
 (hs:s.run P w=(newVar t (cv ρ fv)>>=fun x=>(pure (.pointer (some x)):Sem Value)).run P w):
 Res P w0 ρ h w (do pure (Next.value (←s))) (.s (.ptr h.length 0)) (h++[.own t l]):=by
 have hcl:=zaq hl hv;have hP:=zlf ht;refine⟨_,upd ρ h.length ⟨w.heap.size,0,P.cellsOf t,1,undef⟩,w.alloc (.cells (cv ρ fv).cells t),Zn ?_,.inl rfl,?_,yw _ _ _,by simp,by simp[wfV,wf]⟩
 ·rw[hs];simp[newVar,newRow,cv,c0,zx]
 ·refine R.alloc t _ l 1 ?_ ?_ ?_ (zbN hl hv)
  ·rw[hcl];simp;omega
  ·omega
  ·intro j v hj;rw[hcl];simp[hj]
theorem zlz(l:List SV):∀(k off:Nat) (cs:List SV),((l.map (c0 ρ)).zipIdx k).foldl (fun(xs:Array Value) (p:Value×Nat)=>xs.setIfInBounds (off+p.2) p.1) (cs.map (c0 ρ)).toArray=((qj cs (off+k) l).map (c0 ρ)).toArray:=by
 induction l with
 |nil=>intro k off cs;rfl
 |cons v r ih=>
  intro k off cs;simp only[zuS,List.zipIdx_cons,zwp,qj];rw[show((cs.map (c0 ρ)).toArray.setIfInBounds (off+k) (c0 ρ v))=((cs.set (off+k) v).map (c0 ρ)).toArray by simp[List.map_set]];have:=ih (k+1) off (cs.set (off+k) v);rw[this,zv7]
theorem zfV(hF:FrR ρ h.length N fr a)(place:Nat→Option (Nat×Nat)):∀(parts:List (Nat×Operand)) (ps:List (Nat×Nat×OD)) (cs out:List SV),ql place parts=some ps→ZK fr cs ps=some out→(∀v∈cs,wf ρ h.length v)→
 Instr.fill place (cs.map (c0 ρ)).toArray (parts.map fun p=>(p.1,a.eval p.2))=some (out.map (c0 ρ)).toArray∧(∀v∈out,wf ρ h.length v)∧out.length=cs.length
 |[],ps,cs,out,hc,he,hw=>by
  simp only[ql,zuu] at hc;subst hc;simp only[ZK,zuu] at he;subst he;exact⟨rfl,hw,rfl⟩
 |(i,x)::r,ps,cs,out,hc,he,hw=>by
  simp only[ql] at hc;split at hc
  ·rename_i o n y hp hx;obtain⟨ps',hps,rfl⟩:=zuy.1 hc;simp only[ZK] at he;split at he
   ·rename_i l hl;split at he
    ·rename_i hn;split at he
     ·rename_i hle;obtain⟨fv,hfv,hfc⟩:=zuN.1 hl;obtain⟨e1,e2⟩:=yZ hF hx hfv;have hcl:=zaq hfc e2;have hwl:=zbN hfc e2;have hlen:cs.length=(qj cs o l).length:=(Qi l cs o).symm;obtain⟨q1,q2,q3⟩:=zfV hF place r ps' (qj cs o l) out hps he (fun v hv=>(zid (by omega) hv).elim (hw v) (hwl v));refine⟨?_,q2,by omega⟩;simp only[zuS,Instr.fill,hp,e1];rw[hcl];have hsz:((l.map (c0 ρ)).toArray).size=n:=by simp[hn]
      rw[hsz];have hcond:¬((decide (n≠n)||decide (o+n >((cs.map (c0 ρ)).toArray).size))=true):=by simp;omega
      rw[zuH hcond];have hf:((l.map (c0 ρ)).toArray.zipIdx.foldl (fun cs (p:Value×Nat)=>cs.setIfInBounds (o+p.2) p.1) (cs.map (c0 ρ)).toArray)=((qj cs o l).map (c0 ρ)).toArray:=by have:=zlz (ρ:=ρ) l 0 o cs;rw[zv1] at this;rw[←this,←zxA];simp
      have hf':=hf;rw[hf'];exact q1
     ·cases he
    ·cases he
   ·cases he
  ·cases hc
theorem ZD{t:TypeId}{z:List SV}(hz:ZW P t=some z)(ρ:Nat→Ph):∃i u,P.info? t=some i∧i.zero=some u∧u.cells=(z.map (c0 ρ)).toArray∧∀n,∀v∈z,wf ρ n v:=by
 unfold ZW at hz;split at hz
 ·rename_i i hi;obtain⟨u,hu,hl⟩:=zuN.1 hz;exact⟨i,u,hi,hu,by rw[zfu hl],fun n=>zfv hl ρ n⟩
 ·cases hz
theorem yP{t:TypeId}{i:TypeInfo}{u:Value}(hi:P.info? t=some i)(hu:i.zero=some u):(zeroValue t).run P w= .ok u w:=by simp[zeroValue,typeInfo,hi,hu]
theorem yh{t:TypeId}{i:TypeInfo}(hi:P.info? t=some i):(sizeOf t).run P w= .ok i.size w:=by simp[sizeOf,typeInfo,hi]
theorem zlU(z:List Value)(hz:0<z.length):∀n,(List.range (n*z.length)).map (fun i=>z.toArray[i%z.toArray.size]!)=(List.replicate n z).flatten:=by
 intro n
 induction n with
 |zero=>simp
 |succ n ih=>
  rw[zwG,List.range_add,zvg,ih,List.replicate_succ',List.flatten_append];congr 1;simp only[zw3,List.flatten_nil,zu6,zwE];apply List.ext_getElem
  ·simp
  ·intro i h1 h2;simp only[zuY,zxI] at h1;simp only[zxs,List.getElem_range,Function.comp,zv3];rw[Nat.mul_comm n,Nat.mul_add_mod,zxQ h1];simp[h1]
theorem zq5(f:SV→Value)(n:Nat)(z:List SV):(rep n z).map f=(List.replicate n (z.map f)).flatten:=by
 unfold rep
 induction n with
 |zero=>rfl
 |succ n ih=>rw[zxz,zw3,zvg,ih,zxz,zw3]
theorem ZT(n:Nat)(z:List SV):(rep n z).length=n*z.length:=by
 unfold rep
 induction n with
 |zero=>simp
 |succ n ih=>rw[zxz,zw3,zuD,ih,zwG,zxT]
theorem zjC{n m:Nat}{z:List SV}(hz:∀v∈z,wf ρ m v):∀v∈rep n z,wf ρ m v:=by intro v hv;unfold rep at hv;obtain⟨l,hl,hm⟩:=zxt.1 hv;obtain⟨_,rfl⟩:=List.mem_replicate.1 hl;exact hz v hm
theorem Qs{z:List SV}(hz:0<z.length)(n:Nat):
 (Array.range (n*z.length)).map (fun i=>((z.map (c0 ρ)).toArray)[i%((z.map (c0 ρ)).toArray).size]!)=((rep n z).map (c0 ρ)).toArray:=by
 rw[zq5];have:=zlU (z.map (c0 ρ)) (by simpa using hz) n;rw[zuY] at this;rw[←this];apply zxe;simp
theorem zmU(R:Rel P w0 ρ h w)(hF:FrR ρ h.length N fr a){t:TypeId}{parts:Array (Nat×Operand)}{z:List SV}{pl:List (Nat×Nat)}{ps:List (Nat×Nat×OD)}(hz:ZW P t=some z)(hp:zdQ P t=some pl)
 (hc:ql (pl.toArray[·]?) parts.toList=some ps) {v:FV} {h':LH} (he:opE fr h (.build z ps)=some (v,h')):
 Res P w0 ρ h w (do pure (Next.value (←Instr.build t (parts.map fun p=>(p.1,a.eval p.2))))) v h':=by
 simp only[opE] at he;obtain⟨out,ho,hq⟩:=zuy.1 he;obtain⟨rfl,rfl⟩:=zuP hq;obtain⟨i,u,hi,hu,hcell,hwf⟩:=ZD hz ρ;obtain⟨q1,q2,q3⟩:=zfV hF _ parts.toList ps z out hc ho (hwf _);refine Res.val R ?_ q2;refine run_build w t _ _ ?_;unfold zdQ at hp;split at hp
 ·rename_i fields hd;unfold Program.built;simp only[hi,hd,hu,hp,hcell];rw[←q1];simp
 ·cases hp
theorem zsH(R:Rel P w0 ρ h w)(hF:FrR ρ h.length N fr a){t e:TypeId}{n:Nat}{parts:Array (Nat×Operand)}{i:TypeInfo}{z:List SV}{ps:List (Nat×Nat×OD)}(ht:P.underlying t=some (.slice e))(hi:P.info? e=some i)(hz:ZW P e=some z)
 (hle:n*i.size≤16777216) (h0:0<i.size) (hzl:z.length=i.size) (hc:ql (fun j=>some (j*i.size,i.size)) parts.toList=some ps) {v:FV} {h':LH} (he:opE fr h (.bsl e n z ps)=some (v,h')):
 Res P w0 ρ h w (do pure (Next.value (←Instr.buildSlice t n (parts.map fun p=>(p.1,a.eval p.2))))) v h':=by
 simp only[opE] at he;obtain⟨out,ho,hq⟩:=zuy.1 he;obtain⟨rfl,rfl⟩:=zuP hq;obtain⟨i',u,hi',hu,hcell,hwf⟩:=ZD hz ρ;rw[hi] at hi';obtain rfl:=zuw hi';obtain⟨q1,q2,q3⟩:=zfV hF _ parts.toList ps (rep n z) out hc ho (zjC (hwf _));rw[ZT] at q3;have hP:P.cellsOf e=i.size:=by unfold Program.cellsOf;rw[hi];rfl
 refine⟨_,upd ρ h.length ⟨w.heap.size,0,P.cellsOf e,n,undef⟩,w.alloc (.cells (out.map (c0 ρ)).toArray e),Zn ?_,.inl rfl,?_,yw _ _ _,by simp,?_⟩
 ·have hsz:(sizeOf e).run P w= .ok i.size w:=yh hi;have hzv:(zeroValue e).run P w= .ok u w:=yP hi hu;have hza:=Qs (ρ:=ρ) (z:=z) (by omega) n;rw[hzl] at hza;have hfill:Instr.fill (fun j=>some (j*i.size,i.size)) ((rep n z).map (c0 ρ)).toArray (parts.map fun p=>(p.1,a.eval p.2)).toList=some (out.map (c0 ρ)).toArray:=by
   rw[←q1];simp
  simp only[Instr.buildSlice,zuW,run_underlying ht,zuL,hsz];have hn:¬(2^24<n*i.size):=by omega
  by_cases c:n*i.size=0
  ·have hn0:n=0:=by
    rcases Nat.mul_eq_zero.1 c with h|h
    ·exact h
    ·omega
   subst hn0;simp only[gt_iff_lt,hn,if_false,zvb,zuL,zvP,if_true];simp only[rep,List.replicate_zero,List.flatten_nil,zwa] at hfill;rw[zxL] at hfill;simp[hfill,newRow,cv,c0,adr,zx,Array.range]
  ·simp only[gt_iff_lt,hn,if_false,zvb,zuL,c];simp only[zuW,hzv,zuL,zvb,hcell,hza,hfill];simp[newRow,cv,c0,adr,zx]
 ·refine R.alloc e _ out n ?_ ?_ ?_ q2
  ·rw[hP];simp[q3,hzl]
  ·rw[hP,q3,hzl];exact zuB _
  ·intro j v hj;simp[hj]
 ·simp only[wfV,wf,zx,zuD,zuI];omega
theorem Zm{op:BinOp}{t:TypeId}{x y:Operand}{u v:Value}(h1:u= .nilIface→v≠.nilIface)(h2:∀xs ys,u= .agg xs→v≠.agg ys):(eqGuard op t x y u v).run P w= .ok () w:=by
 unfold eqGuard;cases op<;>simp
 all_goals
  split
  ·exact absurd rfl (h1 rfl)
  ·exact absurd rfl (h2 _ _ rfl)
  ·rfl
theorem zl5{op:BinOp}{k:IntKind}{m n:Int}{r:SV}(hs:¬(op= .shl∨op= .shr))(he:zdp op k m n=some r)(t:TypeId):(binOp op t (.int k m) (.int k n)).run P w= .ok (c0 ρ r) w:=by
 cases op<;>simp only[zdp] at he<;>first
  |(obtain rfl:=zuw he;simp[binOp,Op.intArith,Op.intCmp,Op.intBits,c0];done)
  |(split at he<;>first|(cases he;done)|(obtain rfl:=zuw he;rename_i hne;simp[binOp,Op.intDiv,hne,c0];done))
  |(cases he;done)
  |(exfalso;simp at hs)
theorem zop{op:BinOp}{k k':IntKind}{m n:Int}{r:SV}(he:zjL op k m n=some r)(t:TypeId):(binOp op t (.int k m) (.int k' n)).run P w= .ok (c0 ρ r) w:=by
 unfold zjL at he;split at he
 ·cases he
 ·rename_i hn
  cases op<;>simp only at he<;>first
   |(cases he;done)
   |(obtain rfl:=zuw he;simp[binOp,Op.shift,hn,c0])
theorem zl7{op:BinOp}{x y:ByteArray}{r:SV}(he:zd6 op x y=some r)(t:TypeId):(binOp op t (.string x) (.string y)).run P w= .ok (c0 ρ r) w:=by
 cases op<;>simp only[zd6] at he<;>first
  |(obtain rfl:=zuw he;simp[binOp,Op.stringOp,c0];done)
  |(cases he;done)
  |(split at he
    ·rename_i hle;obtain rfl:=zuw he;have:¬(IntKind.i64.max<((x.size+y.size:Nat):Int)):=by
      have e:IntKind.i64.max=9223372036854775807:=by rfl
      omega
     simp only[binOp,Op.stringOp,gt_iff_lt,this,if_false,zvb,c0]
    ·cases he)
theorem zl2{op:BinOp}{x y u v:Nat}{r:SV}(he:zbV op x y u v=some r)(t:TypeId):(binOp op t (.complex .f64 x y) (.complex .f64 u v)).run P w= .ok (c0 ρ r) w:=by
 cases op<;>simp only[zbV] at he<;>first
  |(cases he;done)
  |(obtain rfl:=zuw he;simp[binOp,Op.complexOp,Op.Complex.cmp,Op.floatCmp,asBool,c0];done)
  |(split at he
    ·rename_i p q hp hq;obtain rfl:=zuw he;simp[binOp,Op.complexOp,Op.Complex.arith,Op.floatArith,hp,hq,c0]
    ·cases he)
theorem zl4{op:BinOp}{x y:Nat}{r:SV}(he:zbY op x y=some r)(t:TypeId):(binOp op t (.float .f64 x) (.float .f64 y)).run P w= .ok (c0 ρ r) w:=by
 cases op<;>simp only[zbY] at he<;>first
  |(cases he;done)
  |(obtain rfl:=zuw he;simp[binOp,Op.floatCmp,c0];done)
theorem zom{op:BinOp}{u v r:SV}(he:zcK op u v=some r)(t:TypeId)(x y:Operand):(do eqGuard op t x y (c0 ρ u) (c0 ρ v);binOp op t (c0 ρ u) (c0 ρ v)).run P w= .ok (c0 ρ r) w:=by
 unfold zcK at he;split at he
 ·rename_i k m k' n;rw[zuW,Zm (by simp[c0]) (by simp[c0]),zuL];split at he
  ·exact zop he t
  ·rename_i hs;split at he
   ·rename_i hk;subst hk;exact zl5 hs he t
   ·cases he
 ·rw[zuW,Zm (by simp[c0]) (by simp[c0]),zuL];exact zl7 he t
 ·rw[zuW,Zm (by simp[c0]) (by simp[c0]),zuL];exact zl2 he t
 ·rw[zuW,Zm (by simp[c0]) (by simp[c0]),zuL];exact zl4 he t
 ·cases he
theorem zpR{op:BinOp}{u v r:SV}(he:zcK op u v=some r)(n:Nat):wf ρ n r:=by
 have:(∃b,r= .bool b)∨(∃k m,r= .int k m)∨(∃s,r= .str s)∨(∃k a b,r= .cpl k a b):=by
  unfold zcK at he;split at he
  ·split at he
   ·unfold zjL at he;split at he
    ·cases he
    ·split at he<;>first|(cases he;done)|(obtain rfl:=zuw he;first|exact .inl ⟨_,rfl⟩|exact .inr (.inl ⟨_,_,rfl⟩)|exact .inr (.inr (.inl ⟨_,rfl⟩))|exact .inr (.inr (.inr ⟨_,_,_,rfl⟩)))
   ·split at he
    ·unfold zdp at he;split at he<;>first|(cases he;done)|(obtain rfl:=zuw he;first|exact .inl ⟨_,rfl⟩|exact .inr (.inl ⟨_,_,rfl⟩)|exact .inr (.inr (.inl ⟨_,rfl⟩))|exact .inr (.inr (.inr ⟨_,_,_,rfl⟩)))|(split at he<;>first|(cases he;done)|(obtain rfl:=zuw he;first|exact .inl ⟨_,rfl⟩|exact .inr (.inl ⟨_,_,rfl⟩)|exact .inr (.inr (.inl ⟨_,rfl⟩))|exact .inr (.inr (.inr ⟨_,_,_,rfl⟩))))
    ·cases he
  ·unfold zd6 at he;split at he<;>first|(cases he;done)|(obtain rfl:=zuw he;first|exact .inl ⟨_,rfl⟩|exact .inr (.inl ⟨_,_,rfl⟩)|exact .inr (.inr (.inl ⟨_,rfl⟩))|exact .inr (.inr (.inr ⟨_,_,_,rfl⟩)))|(split at he<;>first|(cases he;done)|(obtain rfl:=zuw he;first|exact .inl ⟨_,rfl⟩|exact .inr (.inl ⟨_,_,rfl⟩)|exact .inr (.inr (.inl ⟨_,rfl⟩))|exact .inr (.inr (.inr ⟨_,_,_,rfl⟩))))
  ·unfold zbV at he;split at he<;>first|(cases he;done)|(obtain rfl:=zuw he;first|exact .inl ⟨_,rfl⟩|exact .inr (.inl ⟨_,_,rfl⟩)|exact .inr (.inr (.inl ⟨_,rfl⟩))|exact .inr (.inr (.inr ⟨_,_,_,rfl⟩)))|(split at he<;>first|(cases he;done)|(obtain rfl:=zuw he;first|exact .inl ⟨_,rfl⟩|exact .inr (.inl ⟨_,_,rfl⟩)|exact .inr (.inr (.inl ⟨_,rfl⟩))|exact .inr (.inr (.inr ⟨_,_,_,rfl⟩))))
  ·unfold zbY at he;split at he<;>first|(cases he;done)|(obtain rfl:=zuw he;first|exact .inl ⟨_,rfl⟩|exact .inr (.inl ⟨_,_,rfl⟩)|exact .inr (.inr (.inl ⟨_,rfl⟩))|exact .inr (.inr (.inr ⟨_,_,_,rfl⟩)))
  ·cases he
 rcases this with⟨_,rfl⟩|⟨_,_,rfl⟩|⟨_,rfl⟩|⟨_,_,_,rfl⟩<;>trivial
theorem zl3{op:BinOp}{t:TypeId}{u v:Value}{b:Bool}(hop:op= .eql∨op= .neq)(hne:∀k a b,¬(u= .int k a∧∃k',v= .int k' b))(hs:∀s s',¬(u= .string s∧v= .string s'))(hf:∀k s k' s',¬(u= .float k s∧v= .float k' s'))
 (hc:∀k s r k' s' r',¬(u= .complex k s r∧v= .complex k' s' r')) (he:(Op.equal t u v).run P w= .ok b w):(binOp op t u v).run P w= .ok (.bool (if decide (op= .neq) then !b else b)) w:=by
 rcases hop with rfl|rfl
 ·have:binOp .eql t u v=(do pure (.bool (←Op.equal t u v))):=by
   unfold binOp
   split<;>first
    |rfl
    |(rename_i h;cases h;done)
    |(exfalso;first|exact hne _ _ _ ⟨rfl,_,rfl⟩|exact hs _ _ ⟨rfl,rfl⟩|exact hf _ _ _ _ ⟨rfl,rfl⟩|exact hc _ _ _ _ _ _ ⟨rfl,rfl⟩)
    |simp_all
  rw[this];simp[he]
 ·have:binOp .neq t u v=(do pure (.bool (!(←Op.equal t u v)))):=by
   unfold binOp
   split<;>first
    |rfl
    |(rename_i h;cases h;done)
    |(exfalso;first|exact hne _ _ _ ⟨rfl,_,rfl⟩|exact hs _ _ ⟨rfl,rfl⟩|exact hf _ _ _ _ ⟨rfl,rfl⟩|exact hc _ _ _ _ _ _ ⟨rfl,rfl⟩)
    |simp_all
  rw[this];simp[he]
theorem zqL(q b:Bool):cv ρ (Y7 q b)= .bool (if q then !b else b):=rfl
theorem zgw{op:BinOp}{t:TypeId}{u v:Value}{b:Bool}(hop:op= .eql∨op= .neq)(hne:∀k a b,¬(u= .int k a∧∃k',v= .int k' b))(hs:∀s s',¬(u= .string s∧v= .string s'))(hf:∀k s k' s',¬(u= .float k s∧v= .float k' s'))
 (hc:∀k s r k' s' r',¬(u= .complex k s r∧v= .complex k' s' r')) (hi:u= .nilIface→v≠.nilIface) (hg:∀xs ys,u= .agg xs→v≠.agg ys) (he:(Op.equal t u v).run P w= .ok b w) (x y:Operand):
 (do eqGuard op t x y u v;binOp op t u v).run P w= .ok (cv ρ (Y7 (decide (op= .neq)) b)) w:=by
 rw[zuW,Zm hi hg,zuL,zl3 hop hne hs hf hc he,zqL]
theorem zjF{t e:TypeId}(ht:P.underlying t=some (.pointer e)){u v:SV}{b:Bool}(he:zeg u v=some b)(d:Nat):(Op.equalIn (d+1) t (c0 ρ u) (c0 ρ v)).run P w= .ok b w:=by
 unfold zeg at he;split at he<;>first|(cases he;done)|(obtain rfl:=zuw he)
 all_goals simp[Op.equalIn,run_underlying ht,c0]
theorem zl6{t e:TypeId}(ht:P.underlying t=some (.slice e)){u v:SV}{b:Bool}(he:ziW u v=some b)(d:Nat):(Op.equalIn (d+1) t (c0 ρ u) (c0 ρ v)).run P w= .ok b w:=by
 unfold ziW at he;split at he<;>first|(cases he;done)|(obtain rfl:=zuw he)
 all_goals simp[Op.equalIn,run_underlying ht,c0]
theorem zoo{t e:TypeId}(ht:P.underlying t=some (.pointer e)){u v:SV}{b:Bool}(he:zeg u v=some b){op:BinOp}(hop:op= .eql∨op= .neq)(x y:Operand):
 (do eqGuard op t x y (c0 ρ u) (c0 ρ v);binOp op t (c0 ρ u) (c0 ρ v)).run P w= .ok (cv ρ (Y7 (decide (op= .neq)) b)) w:=by
 have hr:=zjF (w:=w) (ρ:=ρ) ht he 9999;unfold zeg at he;split at he<;>first|(cases he;done)|(obtain rfl:=zuw he)
 all_goals exact zgw hop (by simp[c0]) (by simp[c0]) (by simp[c0]) (by simp[c0]) (by simp[c0]) (by simp[c0]) hr x y
theorem zon{t e:TypeId}(ht:P.underlying t=some (.slice e)){u v:SV}{b:Bool}(he:ziW u v=some b){op:BinOp}(hop:op= .eql∨op= .neq)(x y:Operand):
 (do eqGuard op t x y (c0 ρ u) (c0 ρ v);binOp op t (c0 ρ u) (c0 ρ v)).run P w= .ok (cv ρ (Y7 (decide (op= .neq)) b)) w:=by
 have hr:=zl6 (w:=w) (ρ:=ρ) ht he 9999;unfold ziW at he;split at he<;>first|(cases he;done)|(obtain rfl:=zuw he)
 all_goals exact zgw hop (by simp[c0]) (by simp[c0]) (by simp[c0]) (by simp[c0]) (by simp[c0]) (by simp[c0]) hr x y
theorem zq8{t:TypeId}(ht:P.underlying t=some .bool)(a b:Bool){op:BinOp}(hop:op= .eql∨op= .neq)(x y:Operand):
 (do eqGuard op t x y (.bool a) (.bool b);binOp op t (.bool a) (.bool b)).run P w= .ok (cv ρ (Y7 (decide (op= .neq)) (a==b))) w:=
   zgw hop (by simp) (by simp) (by simp) (by simp) (by simp) (by simp) (run_equal_bool w t a b ht) x y
theorem qe{t:TypeId}{d:TypeDesc}(hu:P.underlying t=some d)(hd:d.isRow=false){l:List SV}{o:Nat}{v:SV}(hv:l[o]? =some v):(part t (l.map (c0 ρ)).toArray o).run P w= .ok (c0 ρ v) w:=by unfold part;rw[zuW,Jw hu hd,zuL,zuH (by decide)];simp[hv]
theorem zcQ{t:TypeId}{q:Nat}{u v:SV}{b:Bool}(he:YV q u v=some b)(ht:(∃k,P.underlying t=some (.int k)∧q=0)∨(P.underlying t=some .bool∧q=1)∨(P.underlying t=some .string∧q=2))(d:Nat):
 (Op.equalIn (d+1) t (c0 ρ u) (c0 ρ v)).run P w= .ok b w:=by
 unfold YV at he;split at he
 ·rename_i k a k' a';split at he
  ·rename_i hk;subst hk;obtain rfl:=zuw he;rcases ht with⟨k2,h1,_⟩|⟨_,h⟩|⟨_,h⟩
   ·exact run_equalIn_int w d t k k2 a a' h1
   ·cases h
   ·cases h
  ·cases he
 ·rename_i a a';obtain rfl:=zuw he;rcases ht with⟨k2,h1,h⟩|⟨h1,_⟩|⟨_,h⟩
  ·cases h
  ·exact run_equalIn_bool w d t a a' h1
  ·cases h
 ·rename_i a a';obtain rfl:=zuw he;rcases ht with⟨k2,h1,h⟩|⟨_,h⟩|⟨h1,_⟩
  ·cases h
  ·cases h
  ·rw[beq_toListBytes];exact run_equalIn_string w d t a a' h1
 ·cases he
theorem zjn{t:TypeId}{q:Nat}(ht:(∃k,P.underlying t=some (.int k)∧q=0)∨(P.underlying t=some .bool∧q=1)∨(P.underlying t=some .string∧q=2)):∃d,P.underlying t=some d∧d.isRow=false:=by
 rcases ht with⟨k,h,_⟩|⟨h,_⟩|⟨h,_⟩
 ·exact⟨_,h,rfl⟩
 ·exact⟨_,h,rfl⟩
 ·exact⟨_,h,rfl⟩
theorem zay{xs ys:List SV}(d:Nat):∀(fs:List Field) (ps:List (Nat×Nat)) (b:Bool),qa P fs=some ps→jO xs ys ps=some b→
 (Op.eqFields (d+1) (xs.map (c0 ρ)).toArray (ys.map (c0 ρ)).toArray fs).run P w= .ok b w
 |[],ps,b,hp,he=>by
  simp only[qa,zuu] at hp;subst hp;simp only[jO,zuu] at he;subst he;rfl
 |f::r,ps,b,hp,he=>by
  have key : ∃ q ps', ps = (f.offset, q) :: ps' ∧       qa P r = some ps' ∧ f.name ≠ "_" ∧ ((∃ k, P.underlying f.type = some (.int k) ∧ q = 0) ∨ (P.underlying f.type = some .bool ∧ q = 1) ∨ (P.underlying f.type = some .string ∧ q = 2)) := by
   unfold qa at hp;split at hp
   ·cases hp
   ·rename_i hn;split at hp
    ·rename_i k hu;obtain⟨ps',h1,rfl⟩:=zuy.1 hp;exact⟨0,ps',rfl,h1,hn,.inl ⟨k,hu,rfl⟩⟩
    ·rename_i hu;obtain⟨ps',h1,rfl⟩:=zuy.1 hp;exact⟨1,ps',rfl,h1,hn,.inr (.inl ⟨hu,rfl⟩)⟩
    ·rename_i hu;obtain⟨ps',h1,rfl⟩:=zuy.1 hp;exact⟨2,ps',rfl,h1,hn,.inr (.inr ⟨hu,rfl⟩)⟩
    ·cases hp
  obtain⟨q,ps',rfl,hp',hn,ht⟩:=key;obtain⟨dd,hu,hd⟩:=zjn ht;simp only[jO] at he;split at he
  ·rename_i x y hx hy;split at he
   ·rename_i hce;simp only[Op.eqFields,zuF hn,zuW,qe hu hd hx,qe hu hd hy,zuL,zcQ hce ht d];simpa using zay d r ps' b hp' he
   ·rename_i hce;obtain rfl:=zuw he;simp only[Op.eqFields,zuF hn,zuW,qe hu hd hx,qe hu hd hy,zuL,zcQ hce ht d];simp
   ·cases he
  ·cases he
theorem zq9{t:TypeId}{fs:Array Field}{ps:List (Nat×Nat)}{xs ys:List SV}{b:Bool}(ht:P.underlying t=some (.struct fs))(hg:P.eqGuardType P.depth t=false)(hp:P.stoodInHeld t=false)(hc:qa P fs.toList=some ps)(he:jO xs ys ps=some b)
 {op:BinOp} (hop:op= .eql∨op= .neq) (x y:Operand):
 (do eqGuard op t x y (.agg (xs.map (c0 ρ)).toArray) (.agg (ys.map (c0 ρ)).toArray);binOp op t (.agg (xs.map (c0 ρ)).toArray) (.agg (ys.map (c0 ρ)).toArray)).run P w= .ok (cv ρ (Y7 (decide (op= .neq)) b)) w:=by
 have hf:P.fieldsOf t=fs:=by simp[Program.fieldsOf,ht]
 have hq:(Op.equalIn 10000 t (.agg (xs.map (c0 ρ)).toArray) (.agg (ys.map (c0 ρ)).toArray)).run P w= .ok b w:=by rw[show(10000:Nat)=9998+1+1 from rfl,run_equalIn_struct w _ t _ _ (by rw[hf];exact ht) hp,hf];exact zay 9998 fs.toList ps b hc he
 rw[zuW,run_eqGuard_agg w op t x y _ _ hg,zuL];rcases hop with rfl|rfl
 ·rw[run_eql_struct,hq];rfl
 ·rw[run_neq_struct,hq];rfl
end
end
section
variable {P:Program} {w0:Base}
section
variable {ρ:Nat→Ph} {h:LH} {w:World} {N:Nat} {fr:Fr} {a:Act}
theorem qv{p:Ph}{q o:Nat}(h:o<p.cap):adr p q o=⟨p.blk,p.base+o*p.sz,none⟩:=by unfold adr;rw[zuH (by omega)]
theorem zaH{w:World}{need old:Nat}{e:TypeId}:need≤grownCap w need old e:=by simp[grownCap,Question.cut]
theorem yz{e:TypeId}{i:TypeInfo}(hi:P.info? e=some i):P.cellsOf e=i.size:=by unfold Program.cellsOf;rw[hi];rfl
theorem zey(R:Rel P w0 ρ h w){e e':TypeId}{tx:TypeId}{i:TypeInfo}(hi:P.info? e=some i)(hk:P.underlying tx=some (.slice e')){v:SV}{n:Nat}{new:List SV}(hv:wf ρ h.length v)(hl:zbr v=some n)(he:jW h e i.size v=some new):
 Src P i.size tx (c0 ρ v) n (new.map (c0 ρ)) w∧(∀u∈new,wf ρ h.length u)∧new.length=n*i.size:=by
 cases v<;>simp only[zbr,zuu] at hl<;>simp only[jW,zuu] at he<;>first
  |(cases hl;done)
  |(cases he;done)
  |skip
 case nils=>
  subst hl;subst he;exact⟨Src.ofNil w hk 0,by simp,by simp⟩
 case sl0 j p o=>
  subst hl;subst he;exact⟨Src.ofSlice w hk _ 0 0 [] (by simp) (by simp) (by simp),by simp,by simp⟩
 case sl j p o m=>
  subst hl;by_cases h0:m=0
  ·subst h0;simp only[jW,zuu] at he;subst he;exact⟨Src.ofSlice w hk _ 0 _ [] (by simp) (by simp) (by simp),by simp,by simp⟩
  ·obtain⟨m',rfl⟩:∃m',m=m'+1:=⟨m-1,by omega⟩
   simp only[jW] at he;split at he
   ·rename_i t' vs hc;split at he
    ·rename_i ht;split at he
     ·rename_i hle;obtain rfl:=zuw he;subst ht;obtain⟨q1,q2,q3,q4⟩:=R.cells hc;rw[yz hi] at q2;simp only[wf] at hv;have hwn:∀u∈(vs.drop (o*i.size)).take ((m'+1)*i.size),wf ρ h.length u:=fun u hu=>q3 u (zwe (zvJ hu));have hlen:((vs.drop (o*i.size)).take ((m'+1)*i.size)).length=(m'+1)*i.size:=by
       rw[zvr] at hle;rw[zuR,zvL];omega
      refine⟨Src.ofSlice w hk _ _ _ _ (by rw[zuY,hlen]) ?_ (zgm hwn),hwn,hlen⟩;intro j' u hu;rw[qv (by omega),Addr.add_mid,q2];rw[←JX] at hu;exact qF q1 (o*i.size) ((m'+1)*i.size) j' u hu
     ·cases he
    ·cases he
   ·cases he
theorem zri{tx:TypeId}(hk:P.underlying tx=some .string)(s:ByteArray)(n:Nat):Src P 1 tx (.string s) s.size ((yK s).map (c0 ρ)) w∧(∀u∈yK s,wf ρ n u)∧(yK s).length=s.size*1:=by
 refine⟨?_,?_,by simp[yK]⟩
 ·have:=Src.ofString (P:=P) w hk s;have e:(yK s).map (c0 ρ)=byteCells s:=by
   unfold yK byteCells;rw[zwE];rfl
  rw[e];exact this
 ·intro u hu;obtain⟨b,_,rfl⟩:=zvQ.1 hu;trivial
theorem zjY(R:Rel P w0 ρ h w){t tx ty e:TypeId}{i:TypeInfo}{z:Value}(ht:P.underlying t=some (.slice e))(hi:P.info? e=some i)(hz:i.zero=some z)(hzs:z.cells.size=i.size)(h0:0<i.size)(hy:0<i.bytes){v:SV}(hv:wf ρ h.length v)
 {x:Value} {n:Nat} {new:List SV} (hs:Src P i.size tx x n (new.map (c0 ρ)) w) (hwn:∀u∈new,wf ρ h.length u) (hln:new.length=n*i.size) {out:FV} {h':LH} (he:ZF h e i.size i.bytes v n new=some (out,h')):
 ∃ρ' w',(Builtin.append_ #[t,tx] ty #[c0 ρ v,x]).run P w= .ok (cv ρ' out) w'∧Rel P w0 ρ' h' w'∧Ext h.length ρ ρ'∧h.length≤h'.length∧wfV ρ' h'.length out:=by
 have hP:=yz hi;unfold ZF at he;split at he
 ·rename_i hn;subst hn;have hnew:new=[]:=zvO (by omega);subst hnew
  cases v<;>simp only[zuu,zux] at he<;>first
   |(cases he;done)
   |(obtain⟨rfl,rfl⟩:=he
     refine⟨ρ,w,run_append_nothing w t tx ty e i ht hi _ _ _ ?_ x hs,R,Ext.refl _ _,zuB _,hv⟩
     first
      |exact zuB _
      |(simp only[wf] at hv;omega))
 ·rename_i hn;have hsD:∀(w1:World),True:=fun _=>trivial
  cases v<;>simp only at he<;>first
   |(cases he;done)
   |skip
  case nils=>
   split at he
   ·rename_i hle;simp only[zuu,zux] at he;obtain⟨rfl,rfl⟩:=he;have h63:n≤140737488355328:=by
     have:=zxd n hy;omega
    have hrun:=run_append_grow_src (P:=P) w t tx ty e i z ht hi hz none 0 0 [] (by simpa using run_firstCells_none w.drew i.size 0 0 0) x n (new.map (c0 ρ)) hs (by omega) (by omega) (growslice_fits (by omega) (by simpa using hle));have hge:n≤grownCap w n 0 e:=zaH;simp only[zve,zwb] at hrun;refine⟨upd ρ h.length ⟨w.heap.size,0,P.cellsOf e,grownCap w n 0 e,undef⟩,_,?_,R.drew.alloc e ((new.map (c0 ρ)).toArray++Builtin.zeroCells z.cells (grownCap w n 0 e-n)) new (grownCap w n 0 e) ?_ ?_ ?_ hwn,yw _ _ _,by simp,?_⟩
    ·simp only[c0];rw[hrun];simp[cv,c0,adr,zx,grownCap,Question.cut]
    ·rw[hP];simp only[zw1,zv3,zuY,hln,size_zeroCells,hzs];rw[←zvr];congr 1;omega
    ·rw[hP,hln];exact zvd _ hge
    ·intro j u hj;have hlt:j<new.length:=(zuz.1 hj).1;rw[zwB (by simpa using hlt)];simp[hj]
    ·simp only[wfV,wf,zx,zuD,zuI];omega
   ·cases he
  case sl0 j p o=>
   split at he
   ·rename_i hle;simp only[zuu,zux] at he;obtain⟨rfl,rfl⟩:=he;have h63:n≤140737488355328:=by
     have:=zxd n hy;omega
    have hrun:=run_append_grow_src (P:=P) w t tx ty e i z ht hi hz (some (adr (ρ j) p o)) 0 0 [] (by simpa using run_firstCells_some (P:=P) w.drew i.size 0 (adr (ρ j) p o) 0 0 [] (by simp) (by simp)) x n (new.map (c0 ρ)) hs (by omega) (by omega) (growslice_fits (by omega) (by simpa using hle));have hge:n≤grownCap w n 0 e:=zaH;simp only[zve,zwb] at hrun;refine⟨upd ρ h.length ⟨w.heap.size,0,P.cellsOf e,grownCap w n 0 e,undef⟩,_,?_,R.drew.alloc e ((new.map (c0 ρ)).toArray++Builtin.zeroCells z.cells (grownCap w n 0 e-n)) new (grownCap w n 0 e) ?_ ?_ ?_ hwn,yw _ _ _,by simp,?_⟩
    ·simp only[c0];rw[hrun];simp[cv,c0,adr,zx,grownCap,Question.cut]
    ·rw[hP];simp only[zw1,zv3,zuY,hln,size_zeroCells,hzs];rw[←zvr];congr 1;omega
    ·rw[hP,hln];exact zvd _ hge
    ·intro j u hj;have hlt:j<new.length:=(zuz.1 hj).1;rw[zwB (by simpa using hlt)];simp[hj]
    ·simp only[wfV,wf,zx,zuD,zuI];omega
   ·cases he
  case sl j p o m=>
   split at he
   ·rename_i t' vs hj;split at he
    ·rename_i htt;split at he
     ·rename_i hom;split at he
      ·rename_i hle;simp only[zuu,zux] at he;obtain⟨rfl,rfl⟩:=he;subst htt;obtain⟨b1,b2,b3,b4,b5,b6,b7⟩:=R.obj j _ hj;rw[hP] at b3;simp only[wf] at hv;have h63:m+n≤140737488355328:=by
        have:=zxd (m+n) hy;omega
       rcases zwc ((ρ j).cap-o) (m+n) with hg|hroom
       ·--there is no room
        have hold:(Builtin.firstCells i.size m (.slice (some (adr (ρ j) p o)) m ((ρ j).cap-o))).run P w.drew= .ok (((vs.drop (o*i.size)).take (m*i.size)).map (c0 ρ)).toArray w.drew:=by
         refine run_firstCells_some (P:=P) w.drew i.size m _ m _ _ ?_ ?_
         ·rw[zuY,zuR,zvL];rw[zvr] at hom;omega
         ·intro k u hu;have hpos:0<m:=by
           rcases Nat.eq_zero_or_pos m with rfl|hp
           ·simp at hu
           ·exact hp
          rw[qv (by omega),Addr.add_mid,b3];rw[←JX] at hu;exact qF b5 (o*i.size) (m*i.size) k u hu
        have hrun:=run_append_grow_src (P:=P) w t tx ty _ i z ht hi hz (some (adr (ρ j) p o)) m ((ρ j).cap-o) _ hold x n (new.map (c0 ρ)) hs hg (by omega) (growslice_fits hg hle);have hge:m+n≤grownCap w (m+n) ((ρ j).cap-o) t':=zaH;have hwo:∀u∈(vs.drop (o*i.size)).take (m*i.size)++new,wf ρ h.length u:=by
         intro u hu;rcases zuM.1 hu with hu|hu
         ·exact b7 u (zwe (zvJ hu))
         ·exact hwn u hu
        have hlo:((vs.drop (o*i.size)).take (m*i.size)++new).length=(m+n)*i.size:=by rw[zuD,zuR,zvL,hln,zvr];rw[zvr] at hom;omega
        have hk:=R.drew.kill j;have hkl:(h.set j LO.dead).length=h.length:=zvf;have hA:=hk.alloc t' (((((vs.drop (o*i.size)).take (m*i.size)).map (c0 ρ)++new.map (c0 ρ)).toArray)++Builtin.zeroCells z.cells (grownCap w (m+n) ((ρ j).cap-o) t'-(m+n))) ((vs.drop (o*i.size)).take (m*i.size)++new) (grownCap w (m+n) ((ρ j).cap-o) t') ?_ ?_ ?_ (by rw[hkl];exact hwo);rw[hkl] at hA;refine⟨_,_,?_,hA,yw _ _ _,by simp,?_⟩
        ·simp only[c0];rw[hrun];simp[cv,c0,adr,zx,grownCap,Question.cut]
        ·simp only[wfV,wf,zx,zuD,zuI,hkl];omega
        ·rw[hP,zw1,zv3,←zvg,zuY,hlo,size_zeroCells,hzs,←zvr];congr 1;omega
        ·rw[hP,hlo];exact zvd _ hge
        ·intro k u hk';have hlt:=(zuz.1 hk').1;rw[zwB (by rw[zv3,←zvg,zuY];exact hlt)];rw[←zvg];simp only[zwX,zvv,hk'];rfl
       ·--there is room
        have hrun:=run_append_room_src (P:=P) w t tx ty _ i ht hi (ρ j).blk ((ρ j).base+o*(ρ j).sz) m ((ρ j).cap-o) x n (new.map (c0 ρ)) hs hroom (fun k hk=>by
         rw[zuY,hln] at hk;have hmul:(o+m+n)*i.size≤(ρ j).cap*i.size:=zvd _ (by omega);rw[zvr,zvr] at hmul;have:=(b4 (o*i.size+m*i.size+k) (by rw[b3];omega)).1;rw[b3,show(ρ j).base+o*i.size+m*i.size+k=(ρ j).base+(o*i.size+m*i.size+k) by omega];exact this)
         (fun k hk=>by
           rw[zuY,hln] at hk;have hmul:(o+m+n)*i.size≤(ρ j).cap*i.size:=zvd _ (by omega);rw[zvr,zvr] at hmul;have:=(b4 (o*i.size+m*i.size+k) (by rw[b3];omega)).2;rw[b3,show(ρ j).base+o*i.size+m*i.size+k=(ρ j).base+(o*i.size+m*i.size+k) by omega];exact this)
        have hA:=R.inplace (i:=j) (m:=m) (n:=n) (o:=o) (new:=new) hj (by rw[b3];exact hom) (by rw[b3];exact hln) (by omega) hwn;rw[b3] at hA hrun;refine⟨_,_,?_,hA,yw _ _ _,by simp,?_⟩
        ·simp only[c0];rw[qv (by omega),b3,hrun];simp[cv,c0,adr,zx]
        ·simp only[wfV,wf,zx,zuD,zuI,zvf];omega
      ·cases he
     ·cases he
    ·cases he
   ·cases he
end
end
section
variable {P:Program} {w0:Base}
section
variable {ρ:Nat→Ph} {h:LH} {w:World} {N:Nat} {fr:Fr} {a:Act}
theorem zt6{op:UnOp}{v r:SV}(he:unE op v=some r):(Op.unary op (c0 ρ v)).run P w= .ok (c0 ρ r) w∧∀n,wf ρ n r:=by
 unfold unE at he;split at he
 ·obtain rfl:=zuw he;exact⟨by simp[Op.unary,Op.intArith,c0],fun _=>trivial⟩
 ·obtain rfl:=zuw he;exact⟨by simp[Op.unary,c0],fun _=>trivial⟩
 ·cases he
theorem qQ(hF:FrR ρ h.length N fr a):∀{l:List Operand} {ys:List OD} {vs:List FV},yv l=some ys→odL fr ys=some vs→l.map a.eval=vs.map (cv ρ)∧∀v∈vs,wfV ρ h.length v
 |[],ys,vs,hc,he=>by
  simp only[yv,zuu] at hc;subst hc;simp only[odL,zuu] at he;subst he;exact⟨rfl,by simp⟩
 |x::r,ys,vs,hc,he=>by
  simp only[yv] at hc;split at hc
  ·rename_i y hx;obtain⟨ys',hy,rfl⟩:=zuy.1 hc;simp only[odL] at he;split at he
   ·rename_i v hv;obtain⟨vs',hvs,rfl⟩:=zuy.1 he;obtain⟨e1,e2⟩:=yZ hF hx hv;obtain⟨q1,q2⟩:=qQ hF hy hvs;refine⟨by rw[zuS,zuS,e1,q1],fun u hu=> ?_⟩;rcases zuO.1 hu with rfl|hu
    ·exact e2
    ·exact q2 u hu
   ·cases he
  ·cases hc
theorem zaA{l:List FV}{n:Nat}(hf:Yf l=true)(hw:∀v∈l,wfV ρ n v):(∀v∈l,wf1 ρ n v)∧l.map (cv ρ)=l.map (c1 ρ):=by
 induction l with
 |nil=>exact⟨by simp,rfl⟩
 |cons v r ih=>
  cases v with
  |tup l=>cases hf
  |s v=>
   obtain⟨q1,q2⟩:=ih hf (fun v hv=>hw v (zvB _ hv));refine⟨fun u hu=> ?_,by rw[zuS,zuS,q2];rfl⟩;rcases zuO.1 hu with rfl|hu
   ·exact hw _ zvN
   ·exact q1 u hu
  |agg v=>
   obtain⟨q1,q2⟩:=ih hf (fun v hv=>hw v (zvB _ hv));refine⟨fun u hu=> ?_,by rw[zuS,zuS,q2];rfl⟩;rcases zuO.1 hu with rfl|hu
   ·exact hw _ zvN
   ·exact q1 u hu
theorem YD(hF:FrR ρ h.length N fr a){o:Option Operand}{y:Option OD}(hc:Yd o=some y){d l:Nat}(hb:bound fr d y=some l):
 (o=none∧l=d)∨∃x k n,o=some x∧a.eval x= .int k n∧0≤n∧n.toNat=l:=by
 cases o with
 |none=>
  simp only[Yd,zuu] at hc;subst hc;simp only[bound,zuu] at hb;exact .inl ⟨rfl,hb.symm⟩
 |some x=>
  obtain⟨z,hz,rfl⟩:=zuy.1 hc;simp only[bound] at hb;split at hb
  ·rename_i k n hk;split at hb
   ·rename_i hn;obtain rfl:=zuw hb;exact .inr ⟨x,k,n,rfl,(zh hF hz hk).1,hn,rfl⟩
   ·cases hb
  ·cases hb
theorem jK{v:Value}{k:IntKind}{n:Int}{y:Nat}{code:BoundsCode}(hv:v= .int k n)(h0:0≤n)(h1:n.toNat≤y):(Instr.sliceBound v y code).run P w= .ok n.toNat w:=by
 subst hv;have:0≤n∧n≤(y:Int):=⟨h0,by omega⟩
 simp[Instr.sliceBound,asIntOf,this]
theorem Zr{s:Bool}{len cap l u:Nat}{lo hi:Option Operand}(hlo:(lo=none∧l=0)∨∃x k n,lo=some x∧a.eval x= .int k n∧0≤n∧n.toNat=l)
 (hhi:(hi=none∧u=len)∨∃x k n,hi=some x∧a.eval x= .int k n∧0≤n∧n.toNat=u) (h1:l≤u) (h2:u≤len) (h3:len≤cap):
 (Instr.sliceBounds s len cap (lo.map a.eval) (hi.map a.eval) none).run P w= .ok (l,u,cap) w:=by
 rcases hhi with⟨rfl,rfl⟩|⟨x,k,n,rfl,e1,e2,rfl⟩
 ·rcases hlo with⟨rfl,rfl⟩|⟨x,k,n,rfl,e1,e2,rfl⟩
  ·simp[Instr.sliceBounds]
  ·have:=jK (P:=P) (w:=w) (code:= .sliceB) e1 e2 h1;simp[Instr.sliceBounds,this]
 ·have hu:=jK (P:=P) (w:=w) (y:=cap) (code:=if s then .sliceAcap else .sliceAlen) e1 e2 (by omega);rcases hlo with⟨rfl,rfl⟩|⟨x',k',n',rfl,e1',e2',rfl⟩
  ·simp[Instr.sliceBounds,hu]
  ·have:=jK (P:=P) (w:=w) (code:= .sliceB) e1' e2' h1;simp[Instr.sliceBounds,hu,this]
theorem q9{t:TypeId}(ht:(∀n e,P.underlying t≠some (.array n e))){d:TypeDesc}(hd:P.underlying t=some d)(x:Value)(lo hi mx:Option Value):(Instr.sliceAt t x lo hi mx).run P w=(Instr.slice t x lo hi mx).run P w:=by
 unfold Instr.sliceAt;rw[zuW,run_underlying hd,zuL]
 cases d<;>first
  |rfl
  |exact absurd hd (ht _ _)
theorem jp{t e:TypeId}(he:Zb P t=some e):P.underlying t=some (.slice e):=by
 unfold Zb at he;split at he
 ·rename_i e' hu;obtain rfl:=zuw he;exact hu
 ·cases he
theorem zdr{t:TypeId}(h:zhl P t=true):P.underlying t=some .string:=by
 unfold zhl at h;split at h
 ·assumption
 ·cases h
theorem zrj(R:Rel P w0 ρ h w)(hF:FrR ρ h.length N fr a){t:TypeId}{x:Operand}{lo hi:Option Operand}{y:OD}{l u:Option OD}(hx:zj x=some y)(hl:Yd lo=some l)(hu:Yd hi=some u)(hstr:P.underlying t=some .string){v:FV}{h':LH}(he:opE fr h (.subs y l u)=some (v,h')):
 Res P w0 ρ h w (do pure (Next.value (←Instr.sliceAt t (a.eval x) (lo.map a.eval) (hi.map a.eval) none))) v h':=by
 simp only[opE] at he;split at he
 ·rename_i s hs;obtain⟨e1,e2⟩:=zh hF hx hs;split at he
  ·rename_i l' u' hl' hu';split at he
   ·rename_i h1;split at he
    ·rename_i h2;simp only[zuu,zux] at he;obtain⟨rfl,rfl⟩:=he;refine Res.val R ?_ trivial;rw[q9 (by rw[hstr];simp) hstr,e1];simp only[Instr.slice,zuW,run_underlying hstr,zuL,c0,zxG,zu0,if_false];rw[Zr (YD hF hl hl') (YD hF hu hu') h1 h2 (zuB _)];rfl
    ·cases he
   ·cases he
  ·cases he
 ·cases he
theorem ztY(R:Rel P w0 ρ h w)(hF:FrR ρ h.length N fr a){t:TypeId}{x:Operand}{lo hi:Option Operand}{y:OD}{l u:Option OD}{e z:Nat}(hx:zj x=some y)(hl:Yd lo=some l)(hu:Yd hi=some u)
 {i:TypeInfo} (hu':P.underlying t=some (.slice e)) (hi':P.info? e=some i) (hz:z=i.size) {v:FV} {h':LH} (he:opE fr h (.sli e z y l u)=some (v,h')):
 Res P w0 ρ h w (do pure (Next.value (←Instr.sliceAt t (a.eval x) (lo.map a.eval) (hi.map a.eval) none))) v h':=by
 simp only[opE] at he;split at he
 ·rename_i hs;subst hz;obtain⟨e1,e2⟩:=zh hF hx hs;split at he
  ·rename_i hl' hh';simp only[zuu,zux] at he;obtain⟨rfl,rfl⟩:=he;refine Res.val R ?_ trivial;rw[q9 (by rw[hu'];simp) hu',e1];have hb:=Zr (P:=P) (w:=w) (a:=a) (s:=true) (len:=0) (cap:=0) (YD hF hl hl') (YD hF hu hh') (zuB _) (zuB _) (zuB _);simp only[Instr.slice,zuW,run_underlying hu',zuL,c0,hb,yh hi',zvb];rfl
  ·cases he
 ·rename_i j p o n hs;subst hz;obtain⟨e1,e2⟩:=zh hF hx hs;simp only[wf] at e2;split at he
  ·rename_i l' u' t' vs hl' hh' hc;split at he
   ·rename_i htt;subst htt;split at he
    ·rename_i h1;split at he
     ·rename_i h2;simp only[zuu,zux] at he;obtain⟨rfl,rfl⟩:=he;obtain⟨q1,q2,q3,q4⟩:=R.cells hc;rw[yz hi'] at q2;refine Res.val R ?_ ?_
      ·rw[q9 (by rw[hu'];simp) hu',e1];have hb:=Zr (P:=P) (w:=w) (a:=a) (s:=true) (len:=n) (cap:=(ρ j).cap-o) (YD hF hl hl') (YD hF hu hh') h1 h2 (by omega);simp only[Instr.slice,zuW,run_underlying hu',zuL,c0,hb,yh hi',zvb,cv,zuZ];congr 1;have hcap:(ρ j).cap-o-l'=(ρ j).cap-(o+l'):=by omega
       rw[hcap];congr 1;by_cases hl0:l'=0
       ·subst hl0;rw[zuF rfl];simp only[Addr.add,zvP,if_true,ite_self,zv1]
       ·rw[zuH hl0,qv (p:=ρ j) (q:=p) (o:=o) (by omega)];by_cases hc':(ρ j).cap-o=l'
        ·rw[zuF hc'];unfold adr;rw[zuF (by omega)]
        ·rw[zuH hc',Addr.add_mid];unfold adr;rw[zuH (by omega),q2,zvr,zv7]
      ·simp only[wfV,wf];omega
     ·cases he
    ·cases he
   ·cases he
  ·cases he
 ·cases he
theorem zre(R:Rel P w0 ρ h w)(hF:FrR ρ h.length N fr a){t e:TypeId}{x u m:Operand}{y:OD}(ht:P.underlying t=some (.slice e)){i:TypeInfo}(hi:P.info? e=some i)(hx:zj x=some y)(hu:zbo u=true)(hm:zbo m=true){v:FV}{h':LH}(he:opE fr h (.sli0 y)=some (v,h')):
 Res P w0 ρ h w (do pure (Next.value (←Instr.sliceAt t (a.eval x) none (some (a.eval u)) (some (a.eval m))))) v h':=by
 have hz:∀o,zbo o=true→∃k,a.eval o= .int k 0:=by
  intro o ho;unfold zbo at ho;split at ho
  ·exact⟨_,rfl⟩
  ·cases ho
 obtain⟨k1,hu'⟩:=hz u hu;obtain⟨k2,hm'⟩:=hz m hm;have hb:∀len cap,(Instr.sliceBounds true len cap none (some (a.eval u)) (some (a.eval m))).run P w= .ok (0,0,0) w:=by intro len cap;have b1:=jK (P:=P) (w:=w) (y:=cap) (code:= .slice3Acap) hm' (Int.le_refl _) (by simp);have b2:=jK (P:=P) (w:=w) (y:=0) (code:= .slice3B) hu' (Int.le_refl _) (by simp);simp only[Int.toNat_zero] at b1 b2;simp[Instr.sliceBounds,b1,b2]
 simp only[opE] at he;have fin:∀s,odS fr y=some s→(s= .nils∧v= .s .nils∧h'=h)∨(∃j p o n,s= .sl j p o n∧v= .s (.sl0 j p o)∧h'=h)∨(∃j p o,s= .sl0 j p o∧v= .s (.sl0 j p o)∧h'=h):=by
  intro s hs;rw[hs] at he
  cases s<;>simp only[zuu,zux] at he<;>first
   |(cases he;done)
   |(obtain⟨rfl,rfl⟩:=he;simp)
 cases hs:odS fr y with
 |none=>rw[hs] at he;cases he
 |some s=>
  obtain⟨e1,e2⟩:=zh hF hx hs;rcases fin s hs with⟨rfl,rfl,rfl⟩|⟨j,p,o,n,rfl,rfl,rfl⟩|⟨j,p,o,rfl,rfl,rfl⟩
  ·refine Res.val R ?_ trivial;rw[q9 (by rw[ht];simp) ht,e1];simp only[Instr.slice,zuW,run_underlying ht,zuL,c0,hb,yh hi,zvb];rfl
  ·refine Res.val R ?_ e2.1;rw[q9 (by rw[ht];simp) ht,e1];simp only[Instr.slice,zuW,run_underlying ht,zuL,c0,hb,yh hi,zvb];rfl
  ·refine Res.val R ?_ e2;rw[q9 (by rw[ht];simp) ht,e1];simp only[Instr.slice,zuW,run_underlying ht,zuL,c0,hb,yh hi,zvb];rfl
end
end
section
variable {P:Program} {w0:Base}
section
variable {ρ:Nat→Ph} {h:LH} {w:World} {N:Nat} {fr:Fr} {a:Act}
theorem Res.pseudo{s:Sem Value}{v:SV}(R:Rel P w0 ρ h w)(o:LO)(hh:o.holds=false)(u:Value)(hs:s.run P w= .ok u w)(hv:v= .cl h.length∨v= .iv h.length)(h1:u.oneCell'=true)
 (ho:QU P w0.B (upd ρ h.length ⟨0,0,0,0,u⟩) (h.length+1) ⟨0,0,0,0,u⟩ w o):Res P w0 ρ h w (do pure (Next.value (←s))) (.s v) (h++[o]):=by
 refine⟨_,upd ρ h.length ⟨0,0,0,0,u⟩,w,Zn hs,.inl ?_,R.pseudo _ o hh ho,yw _ _ _,by simp,?_⟩
 ·rcases hv with rfl|rfl<;>simp[cv,c0,zx]
 ·rcases hv with rfl|rfl<;>simp[wfV,wf,zx,h1]
theorem zts(R:Rel P w0 ρ h w)(hF:FrR ρ h.length N fr a){f:Nat}{first caps:Array Operand}{x y:List OD}(hx:yv first.toList=some x)(hy:yv caps.toList=some y){v:FV}{h':LH}(he:opE fr h (.mkf f x y)=some (v,h')):
 Res P w0 ρ h w (do pure (Next.value (←Instr.makeFunc (.func f) (first.map a.eval) (caps.map a.eval)))) v h':=by
 simp only[opE] at he;split at he
 ·rename_i xs ys hxs hys;split at he
  ·rename_i hfl;simp only[zuu,zux] at he;obtain⟨rfl,rfl⟩:=he;rw[zuE] at hfl;obtain⟨a1,a2⟩:=qQ hF hx hxs;obtain⟨b1,b2⟩:=qQ hF hy hys;obtain⟨w1,m1⟩:=zaA hfl.1 a2;obtain⟨w2,m2⟩:=zaA hfl.2 b2;rw[m1] at a1;rw[m2] at b1;have ea:first.map a.eval=(xs.map (c1 ρ)).toArray:=by apply zxe;simpa using a1
   have eb:caps.map a.eval=(ys.map (c1 ρ)).toArray:=by apply zxe;simpa using b1
   have hu:Ext h.length ρ (upd ρ h.length ⟨0,0,0,0,.func (.func f) (xs.map (c1 ρ)).toArray (ys.map (c1 ρ)).toArray⟩):=yw _ _ _;refine Res.pseudo R (.clo f xs ys) rfl (.func (.func f) (xs.map (c1 ρ)).toArray (ys.map (c1 ρ)).toArray) ?_ (.inl rfl) rfl ⟨?_,fun u hu'=>Ji hu (by omega) (w1 u hu'),fun u hu'=>Ji hu (by omega) (w2 u hu')⟩
   ·rw[ea,eb];rfl
   ·rw[zvj fun u hm=>QX hu (w1 u hm),zvj fun u hm=>QX hu (w2 u hm)]
  ·cases he
 ·cases he
theorem ztt(R:Rel P w0 ρ h w)(hF:FrR ρ h.length N fr a){t:TypeId}{d:TypeDesc}(hd:P.underlying t=some d)(hni:∀ms,d≠.interface ms){x:Operand}{y:OD}(hx:zj x=some y){v:FV}{h':LH}(he:opE fr h (.mki t y)=some (v,h')):
 Res P w0 ρ h w (do pure (Next.value (←Instr.makeInterface t (a.eval x)))) v h':=by
 simp only[opE] at he;split at he
 ·rename_i u hu;split at he
  ·rename_i hfl;simp only[zuu,zux] at he;obtain⟨rfl,rfl⟩:=he;obtain⟨e1,e2⟩:=yZ hF hx hu;obtain⟨w1,m1⟩:=zaA (l:=[u]) hfl (by simpa using e2);have w1':=w1 u zvN;have hext:Ext h.length ρ (upd ρ h.length ⟨0,0,0,0,.iface t (c1 ρ u)⟩):=yw _ _ _;refine Res.pseudo R (.ifc t u) rfl (.iface t (c1 ρ u)) ?_ (.inr rfl) rfl ⟨by rw[QX hext w1'],Ji hext (by omega) w1'⟩;rw[e1,zbe w1'];unfold Instr.makeInterface;rw[zuW,run_underlying hd,zuL]
   cases d<;>first
    |rfl
    |exact absurd rfl (hni _)
  ·cases he
 ·cases he
theorem zoU{n:Int}(h0:0≤n)(h1:n<9223372036854775808):IntKind.i64.wrap n=n:=by simp[IntKind.wrap,IntKind.bits,IntKind.signed];omega
theorem ztv(R:Rel P w0 ρ h w)(hF:FrR ρ h.length N fr a){t e:TypeId}{l c:Operand}{y:OD}{i:TypeInfo}{z:List SV}(ht:P.underlying t=some (.slice e))(hi:P.info? e=some i)(hz:ZW P e=some z)(hs:zjH l c=true)(h0:0<i.size)(hb0:0<i.bytes)(hzl:z.length=i.size)
 (hl:zj l=some y) {v:FV} {h':LH} (he:opE fr h (.mks e i.bytes z y)=some (v,h')):Res P w0 ρ h w (do pure (Next.value (←Instr.makeSlice t (a.eval l) (a.eval c)))) v h':=by
 simp only[opE] at he;split at he
 ·rename_i n hn;obtain⟨e1,e2⟩:=zh hF hl hn;split at he
  ·rename_i hn0;split at he
   ·rename_i hle;simp only[zuu,zux] at he;obtain⟨rfl,rfl⟩:=he;have ec:a.eval c=a.eval l:=by
     unfold zjH at hs;split at hs
     ·rw[zv4] at hs;rw[hs]
     ·rw[zv4] at hs;rw[hs]
     ·cases hs
    obtain⟨i',u,hi',hu,hcell,hwf⟩:=ZD hz ρ;rw[hi] at hi';obtain rfl:=zuw hi';have hP:=yz hi;by_cases hwrap:IntKind.i64.wrap n=n
    ·refine⟨_,upd ρ h.length ⟨w.heap.size,0,P.cellsOf e,n.toNat,undef⟩,w.alloc (.cells ((rep n.toNat z).map (c0 ρ)).toArray e),Zn ?_,.inl rfl,?_,yw _ _ _,by simp,?_⟩
     ·rw[ec,e1];have hty:(typeInfo e).run P w= .ok i w:=by simp[typeInfo,hi]
      have hza:=Qs (ρ:=ρ) (z:=z) (by omega) n.toNat;rw[hzl] at hza;have hbig:¬((i.bytes:Int)*n >2^48):=by
       have:(i.bytes:Int)*n=((n.toNat*i.bytes:Nat):Int):=by rw[Int.natCast_mul,zxy hn0,Int.mul_comm]
       rw[this];omega
      have hneg:¬(n<0):=by omega
      simp only[Instr.makeSlice,zuW,run_underlying ht,zuL,c0,asInt,asIntOf,zvb,hty,hwrap];have hcond:((decide (n<0)||decide ((i.bytes:Int)*n >2^48))||decide (n<0)||decide (n >n))=false:=by simp only[hneg,hbig,decide_false,Bool.or_false,gt_iff_lt,Int.lt_irrefl]
      rw[zuH (by rw[hcond];decide)];simp only[zuW,run_askRoom,zuL,yh hi,Sem.run_ite,zvb];by_cases c0':n.toNat*i.size=0
      ·have hz0:n.toNat=0:=by
        rcases Nat.mul_eq_zero.1 c0' with h|h
        ·exact h
        ·omega
       have hr:∀f:Nat→Value,(Array.range (n.toNat*i.size)).map f= #[]:=fun f=>zwg (by simp[c0']);rw[zuF c0'];simp only[zuW,zvb,zuL,hr];have hrep:rep n.toNat z=[]:=zvO (by rw[ZT,hz0,zvP]);rw[hrep];simp[newRow,cv,c0,adr,zx,zxy hn0]
      ·rw[zuH c0'];simp only[zuW,yP hi hu,zuL,zvb,hcell,hza];simp[newRow,cv,c0,adr,zx]
     ·refine R.alloc e _ (rep n.toNat z) n.toNat ?_ ?_ ?_ (zjC (hwf _))
      ·rw[hP];simp[ZT,hzl]
      ·rw[hP,ZT,hzl];exact zuB _
      ·intro j x hj;simp[hj]
     ·simp only[wfV,wf,zx,zuD,zuI];omega
    ·exfalso;apply hwrap;have:n.toNat≤140737488355328:=by
      have:=zxd n.toNat (show 1≤i.bytes by omega);omega
     exact zoU hn0 (by omega)
   ·cases he
  ·cases he
 ·cases he
theorem zc8{s:TypeId}{f:Nat}{g:Field}(h:Qx P s f=some g):∃fs,P.underlying s=some (.struct fs)∧fs[f]? =some g:=by
 unfold Qx at h;split at h
 ·rename_i fs hu;exact⟨fs,hu,h⟩
 ·cases h
theorem zs4(R:Rel P w0 ρ h w)(hF:FrR ρ h.length N fr a){s:TypeId}{f:Nat}{g:Field}{i:TypeInfo}(hf:Qx P s f=some g)(hi:P.info? g.type=some i)(h0:0<i.size){x:Operand}{y:OD}(hx:zj x=some y){v:FV}{h':LH}(he:opE fr h (.fad g.offset y)=some (v,h')):
 Res P w0 ρ h w (do pure (Next.value (←Instr.fieldAt s (a.eval x) f))) v h':=by
 simp only[opE] at he;split at he
 ·rename_i j o hj;simp only[zuu,zux] at he;obtain⟨rfl,rfl⟩:=he;obtain⟨e1,e2⟩:=zh hF hx hj;obtain⟨fs,hu,hg⟩:=zc8 hf;refine Res.val R ?_ e2;rw[e1];have hz:¬(i.size=0):=by omega
  simp only[Instr.fieldAt,zuW,run_underlying hu,zuL,hg,c0,Instr.sureAddr,zvb,fieldPlace,yh hi,hz,if_false,Addr.add_mid,cv,zv7]
 ·cases he
theorem zs6(R:Rel P w0 ρ h w)(hF:FrR ρ h.length N fr a){s:TypeId}{f:Nat}{g:Field}{q:Bool}{n:Nat}(hf:Qx P s f=some g)(ht:QL P g.type=some (q,n)){x:Operand}{y:OD}(hx:zj x=some y){v:FV}{h':LH}(he:opE fr h (.fld q g.offset n y)=some (v,h')):
 Res P w0 ρ h w (do pure (Next.value (←Instr.field s (a.eval x) f))) v h':=by
 simp only[opE] at he;split at he
 ·rename_i l hl;obtain⟨e1,e2⟩:=yZ hF hx hl;obtain⟨fs,hu,hg⟩:=zc8 hf;cases q with
  |true=>
   rw[zuF rfl] at he;split at he
   ·rename_i hle;simp only[zuu,zux] at he;obtain⟨rfl,rfl⟩:=he;obtain⟨⟨d,hud,hd⟩,hn⟩:=QH ht;refine Res.val R ?_ (fun u hu'=>e2 u (zwe (zvJ hu')));rw[e1];have hagg:(isAgg g.type).run P w= .ok true w:=by
     unfold isAgg;rw[zuW,run_underlying hud w];cases d<;>simp_all
    cases hq:P.info? g.type with
    |none=>simp[hq] at hn
    |some i=>
     have hs:i.size=n:=by simpa[hq] using hn
     simp only[Instr.field,zuW,run_underlying hu,zuL,hg,cv,asAgg,zvb,part,hagg,if_true,yh hq,hs];congr 2;apply zxe;simp[zwO,List.map_drop,List.take_drop]
   ·cases he
  |false=>
   rw[zuH (by decide)] at he;split at he
   ·rename_i u hu';simp only[zuu,zux] at he;obtain⟨rfl,rfl⟩:=he;obtain⟨⟨d,hud,hd⟩,hn⟩:=Jh ht;refine Res.val R ?_ (e2 u (zvh hu'));rw[e1];simp only[Instr.field,zuW,run_underlying hu,zuL,hg,cv,asAgg,zvb,qe hud hd hu']
   ·cases he
 ·cases he
theorem ztb(R:Rel P w0 ρ h w)(hF:FrR ρ h.length N fr a){t e:TypeId}{i:TypeInfo}(ht:P.underlying t=some (.slice e))(hi:P.info? e=some i){x j:Operand}{y z:OD}(hx:zj x=some y)(hj:zj j=some z){v:FV}{h':LH}(he:opE fr h (.iad e i.size y z)=some (v,h')):
 Res P w0 ρ h w (do pure (Next.value (←Instr.indexAt t (a.eval x) (a.eval j)))) v h':=by
 simp only[opE] at he;split at he
 ·rename_i q p o n k m hq hk;obtain⟨e1,e2⟩:=zh hF hx hq;obtain⟨e3,_⟩:=zh hF hj hk;split at he
  ·rename_i t' vs hc;split at he
   ·rename_i htt;subst htt;split at he
    ·rename_i h0;split at he
     ·rename_i h1;simp only[zuu,zux] at he;obtain⟨rfl,rfl⟩:=he;obtain⟨q1,q2,q3,q4⟩:=R.cells hc;rw[yz hi] at q2;simp only[wf] at e2;refine Res.val R ?_ q4;rw[e1,e3];have hb:0≤m∧m<(n:Int):=⟨h0,h1⟩
      simp only[Instr.indexAt,zuW,c0,asIntOf,zvb,zuL,run_underlying ht];rw[qv (by omega),q2];simp only[hb,and_self,if_true,zuW,yh hi,zuL,zvb,Addr.add_mid,cv,c0];rw[zvr,zv7]
     ·cases he
    ·cases he
   ·cases he
  ·cases he
 ·cases he
theorem ztc(R:Rel P w0 ρ h w)(hF:FrR ρ h.length N fr a){t:TypeId}(ht:P.underlying t=some .string){x j:Operand}{y z:OD}(hx:zj x=some y)(hj:zj j=some z){v:FV}{h':LH}(he:opE fr h (.idx y z)=some (v,h')):
 Res P w0 ρ h w (do pure (Next.value (←Instr.index t (a.eval x) (a.eval j)))) v h':=by
 simp only[opE] at he;split at he
 ·rename_i s k m hs hk;obtain⟨e1,e2⟩:=zh hF hx hs;obtain⟨e3,_⟩:=zh hF hj hk;split at he
  ·rename_i h0;split at he
   ·rename_i b hb;simp only[zuu,zux] at he;obtain⟨rfl,rfl⟩:=he;refine Res.val R ?_ trivial;rw[e1,e3];have hb':s[m.toNat]? =some b:=by
     rw[←hb];have hlt:=(zuz.1 hb).1;have hlt':m.toNat<s.size:=by simpa using hlt
     rw[getElem?_pos s m.toNat hlt',zuJ hlt];rfl
    simp only[Instr.index,zuW,c0,asIntOf,zvb,zuL,run_underlying ht,h0,if_true,hb'];rfl
   ·cases he
  ·cases he
 ·cases he
theorem zs3(R:Rel P w0 ρ h w)(hF:FrR ρ h.length N fr a){i:Nat}{x:Operand}{y:OD}(hx:zj x=some y){v:FV}{h':LH}(he:opE fr h (.ext y i)=some (v,h')):
 Res P w0 ρ h w (do pure (Next.value (←Instr.extract (a.eval x) i))) v h':=by
 simp only[opE] at he;split at he
 ·rename_i l hl;obtain⟨e1,e2⟩:=yZ hF hx hl;split at he
  ·rename_i u hu;simp only[zuu,zux] at he;obtain⟨rfl,rfl⟩:=he;have hw1:=e2 u (zvh hu);refine Res.val R ?_ (Jj hw1);rw[e1,zbe hw1];simp[Instr.extract,cv,hu]
  ·cases he
 ·cases he
theorem zti(R:Rel P w0 ρ h w)(hF:FrR ρ h.length N fr a){t ty e:TypeId}{ts:Array TypeId}(hts:ts[0]? =some t)(ht:P.underlying t=some (.slice e)){x:Operand}{y:OD}(hx:zj x=some y){v:FV}{h':LH}(he:opE fr h (.len y)=some (v,h')):
 Res P w0 ρ h w (do pure (Next.value (←Builtin.len_ ts ty #[a.eval x]))) v h':=by
 simp only[opE] at he;split at he
 ·rename_i u hu;obtain⟨n,hn,hq⟩:=zuy.1 he;obtain⟨rfl,rfl⟩:=zuP hq;obtain⟨e1,e2⟩:=zh hF hx hu;refine Res.val R ?_ trivial;rw[e1]
  cases u<;>simp only[zbr,zuu] at hn<;>first
   |(cases hn;done)
   |(subst hn;simp[Builtin.len_,hts,run_underlying ht,c0,goInt,cv])
 ·cases he
theorem zrd(R:Rel P w0 ρ h w)(hF:FrR ρ h.length N fr a){t ty:TypeId}{ts:Array TypeId}(hts:ts[0]? =some t)(ht:P.underlying t=some .string){x:Operand}{y:OD}(hx:zj x=some y){v:FV}{h':LH}(he:opE fr h (.slen y)=some (v,h')):
 Res P w0 ρ h w (do pure (Next.value (←Builtin.len_ ts ty #[a.eval x]))) v h':=by
 simp only[opE] at he;split at he
 ·rename_i s hs;simp only[zuu,zux] at he;obtain⟨rfl,rfl⟩:=he;obtain⟨e1,e2⟩:=zh hF hx hs;refine Res.val R ?_ trivial;rw[e1];simp[Builtin.len_,hts,run_underlying ht,c0,goInt,cv]
 ·cases he
theorem QT(R:Rel P w0 ρ h w){i t:Nat}{vs l:List SV}{o:Nat}(hi:h[i]? =some (.own t vs))(hl:o+l.length≤vs.length)(hw:∀v∈l,wf ρ h.length v):
 (storeCells ⟨(ρ i).blk,(ρ i).base+o,none⟩ (l.map (c0 ρ))).run P w= .ok () (w.setCells (ρ i).blk ((ρ i).base+o) (l.map (c0 ρ))):=by
 obtain⟨b1,b2,b3,b4,b5,b6,b7⟩:=R.obj i _ hi
 have:=run_storeCells_cells (P:=P) (ρ i).blk ((ρ i).base+o) (l.map (c0 ρ)) 0 w
  (fun j hj=>by rw[zuY] at hj;rw[zv1,zv7];exact(b4 (o+j) (by omega)).1)
  (fun j hj=>by rw[zuY] at hj;rw[zv1,zv7];exact(b4 (o+j) (by omega)).2) (zgm hw)
 simpa using this
theorem zpZ(R:Rel P w0 ρ h w)(hF:FrR ρ h.length N fr a){t tx e e' ty:TypeId}{i:TypeInfo}{ts:Array TypeId}(hts:ts[0]? =some t)(htx:ts[1]? =some tx)(ht:P.underlying t=some (.slice e))(hk:P.underlying tx=some (.slice e'))(hi:P.info? e=some i)
 {x x':Operand} {y y':OD} (hx:zj x=some y) (hx':zj x'=some y') {v:FV} {h':LH} (he:opE fr h (.copy e i.size y y')=some (v,h')):
 Res P w0 ρ h w (do pure (Next.value (←Builtin.copy_ ts ty #[a.eval x,a.eval x']))) v h':=by
 simp only[opE] at he;split at he
 ·rename_i j p o m u hj hu;obtain⟨e1,e2⟩:=zh hF hx hj;obtain⟨e3,e4⟩:=zh hF hx' hu;split at he
  ·rename_i t' vs n new hob hn hnew;split at he
   ·rename_i htt;subst htt;split at he
    ·rename_i hle;simp only[zuu,zux] at he;obtain⟨rfl,rfl⟩:=he;obtain⟨hs,hwn,hln⟩:=zey (tx:=tx) R hi hk e4 hn hnew;obtain⟨b1,b2,b3,b4,b5,b6,b7⟩:=R.obj j _ hob;rw[yz hi] at b3;simp only[wf] at e2;have hwt:∀q∈new.take (min n m*i.size),wf ρ h.length q:=fun q hq=>hwn q (zvJ hq);have hlt:(new.take (min n m*i.size)).length=min n m*i.size:=by
      rw[zuR,hln];have:=zvd i.size (Nat.min_le_left n m);omega
     have hmm:min n m*i.size≤m*i.size:=zvd i.size (Nat.min_le_right n m);rw[zvr] at hle;have hst:=QT R hob (o:=o*i.size) (l:=new.take (min n m*i.size)) (by rw[hlt];omega) hwt;refine⟨_,ρ,_,Zn ?_,.inl rfl,R.store hob (o:=o*i.size) (l:=new.take (min n m*i.size)) (by rw[hlt];omega) hwt,Ext.refl _ _,by rw[zvf];exact zuB _,trivial⟩;rw[e1,e3];have hfirst:(Builtin.firstCells i.size (min n m) (c0 ρ u)).run P w= .ok ((new.take (min n m*i.size)).map (c0 ρ)).toArray w:=by
      cases u<;>simp only[zbr,zuu] at hn<;>first
       |(cases hn;done)
       |skip
      case nils=>
       subst hn;simp only[jW,zuu] at hnew;subst hnew;simp[Builtin.firstCells,c0]
      case sl0 q1 q2 q3=>
       subst hn;simp only[jW,zuu] at hnew;subst hnew;simp only[c0];have:=run_firstCells_some (P:=P) w i.size 0 (adr (ρ q1) q2 q3) 0 0 [] (by simp) (by simp);simpa using this
      case sl q1 q2 q3 q4=>
       subst hn;simp only[c0];refine run_firstCells_some (P:=P) w i.size (min q4 m) _ q4 _ _ (by rw[zuY,hlt]) ?_;intro k c hc;rcases Nat.eq_zero_or_pos q4 with h0|hp
       ·rw[h0] at hc;simp at hc
       ·obtain⟨q4',rfl⟩:∃r,q4=r+1:=⟨q4-1,by omega⟩
        simp only[jW] at hnew;split at hnew
        ·rename_i t2 vs2 hc2;split at hnew
         ·rename_i ht2;split at hnew
          ·rename_i hle2;obtain rfl:=zuw hnew;subst ht2;obtain⟨r1,r2,r3,r4⟩:=R.cells hc2;rw[yz hi] at r2;simp only[wf] at e4;rw[qv (by omega),Addr.add_mid,r2];rw[zwy,←JX] at hc;exact qF r1 (q3*i.size) _ k c hc
          ·cases hnew
         ·cases hnew
        ·cases hnew
     have hlen:(Builtin.lenOf (c0 ρ u)).run P w= .ok n w:=hs.len w;have hst':(storeCells (adr (ρ j) p o) ((new.take (min n m*i.size)).map (c0 ρ))).run P w= .ok () (w.setCells (ρ j).blk ((ρ j).base+o*i.size) ((new.take (min n m*i.size)).map (c0 ρ))):=by
      rcases Nat.eq_zero_or_pos m with hm|hm
      ·have h0:new.take (min n m*i.size)=[]:=zvO (by rw[hlt,hm,Nat.min_zero,zvP]);rw[h0];rfl
      ·rw[qv (by omega),b3];exact hst
     rw[show c0 ρ (.sl j p o m)= .slice (some (adr (ρ j) p o)) m ((ρ j).cap-o) from rfl];simp only[Builtin.copy_,zuW,run_underlying ht,zuL,hts,zwX,zvl,zvI,yh hi,hlen];rw[show Nat.min n m=min n m from rfl,hfirst];simp only[zuL,hst',zuW,zvb];rfl
    ·cases he
   ·cases he
  ·cases he
 ·cases he
end
end
section
variable {P:Program} {w0:Base}
section
variable {ρ:Nat→Ph} {h:LH} {w:World} {N:Nat} {fr:Fr} {a:Act}
theorem ztQ(R:Rel P w0 ρ h w)(hF:FrR ρ h.length N fr a){t:TypeId}(ht:P.underlying t=some .string){x:Operand}{y:OD}(hx:zj x=some y){v:FV}{h':LH}(he:opE fr h (.rng y)=some (v,h')):
 Res P w0 ρ h w (do pure (Next.value (←Instr.range t (a.eval x)))) v h':=by
 simp only[opE] at he;split at he
 ·rename_i s hs;simp only[zuu,zux] at he;obtain⟨rfl,rfl⟩:=he;obtain⟨e1,e2⟩:=zh hF hx hs;refine⟨_,upd ρ h.length ⟨w.heap.size,0,1,1,undef⟩,w.iter s 0,Zn (by rw[e1];exact run_range_string w t s ht),.inl ?_,?_,yw _ _ _,by simp,by simp[wfV,wf]⟩
  ·simp[cv,c0,zx]
  ·refine R.newBlk _ _ rfl ((Below.refl _ _).alloc R.size _) (fun _=>zuB _) ?_ (fun k hk=>Below.heap_alloc _ _ _ hk) ?_
   ·show(w.heap.push _).size=_;rw[zwH]
   ·exact⟨R.size,by show _<(w.heap.push _).size;rw[zwH];exact zww _,rfl,World.iter_heap w s 0⟩
 ·cases he
theorem zdW{o:Obj}{s:ByteArray}{p r:Nat}(hb:w.heap[r]? =some (.stringIter s p)):(setObj r o).run P w= .ok () {w with heap:=w.heap.setIfInBounds r o}:=by simp[setObj,Sem.run,hb]
theorem Qg{s:ByteArray}{p r:Nat}(hb:w.heap[r]? =some (.stringIter s p)):(getObj r).run P w= .ok (.stringIter s p) w:=by simp[getObj,Sem.run,hb]
theorem zeo{B b:Nat}(hB:B≤b)(o:Obj):Below B w {w with heap:=w.heap.setIfInBounds b o}:=
 ⟨rfl,rfl,rfl,by simp,fun k hk=>by simp only;rw[zwo (by omega)]⟩
theorem Rel.setObj(R:Rel P w0 ρ h w){i:Nat}{o o':LO}(hi:h[i]? =some o)(hh:o.holds=true)(hlow:w0.B≤(ρ i).blk)(hh':o'.holds=true)(b:Obj)
 (ho:QU P w0.B ρ h.length (ρ i) {w with heap:=w.heap.setIfInBounds (ρ i).blk b} o'):Rel P w0 ρ (h.set i o') {w with heap:=w.heap.setIfInBounds (ρ i).blk b}:=
 R.setBlk hi hh (zeo hlow b) (fun _=>zuB _) (by simp) (fun k hk=>by simp only;rw[zwo (fun e=>hk e.symm)]) hlow hh' ho
theorem ztE(R:Rel P w0 ρ h w)(hF:FrR ρ h.length N fr a){ty:TypeId}{x:Operand}{y:OD}(hx:zj x=some y){v:FV}{h':LH}(he:opE fr h (.nxt y)=some (v,h')):
 Res P w0 ρ h w (do pure (Next.value (←Instr.next (a.eval x) true ty))) v h':=by
 simp only[opE] at he;split at he
 ·rename_i i hs;obtain⟨e1,e2⟩:=zh hF hx hs;split at he
  ·rename_i s pos hi;obtain⟨b1,b2,b3,b4⟩:=R.obj i _ hi;have ec:c0 ρ (.ptr i 0)= .pointer (some ⟨(ρ i).blk,0,none⟩):=by simp[c0,b3]
   split at he
   ·rename_i b hb;split at he
    ·rename_i ha;simp only[zuu,zux] at he;obtain⟨rfl,rfl⟩:=he;have hp:pos<s.size:=by
      have:=(zuz.1 hb).1;simpa using this
     have hb':s[pos]'hp=b:=by have:=(zuz.1 hb).2;simp only[Array.getElem_toList] at this;exact this
     refine⟨_,ρ,{w with heap:=w.heap.setIfInBounds (ρ i).blk (.stringIter s (pos+1))},Zn ?_,.inl rfl,?_,Ext.refl _ _,by simp,fun u hu=> ?_⟩
     ·rw[e1,ec];simp only[Instr.next,zuW,Qg b4,zuL,hp,if_true,decode_ascii s pos hp (by rw[hb'];exact ha),zdW b4,zvb,hb'];rfl
     ·refine R.setObj hi rfl b1 rfl _ ⟨b1,by simp;exact b2,b3,?_⟩;simp only[zv8 b2]
     ·simp only[zuO,zvT,or_false] at hu;rcases hu with rfl|rfl|rfl<;>trivial
    ·cases he
   ·rename_i hb;simp only[zuu,zux] at he;obtain⟨rfl,rfl⟩:=he;have hp:¬pos<s.size:=by
     have:=zw7.1 hb;simp at this;omega
    refine Res.val R ?_ (fun u hu=>by
     simp only[zuO,zvT,or_false] at hu;subst hu;trivial)
    rw[e1,ec];simp only[Instr.next,zuW,Qg b4,zuL,hp,if_false,zvb];rfl
  ·cases he
 ·cases he
theorem ztu(R:Rel P w0 ρ h w){t:TypeId}{v:FV}{h':LH}(he:opE fr h .mkm=some (v,h')):Res P w0 ρ h w (do pure (Next.value (←Instr.makeMap t none))) v h':=by
 simp only[opE,zuu,zux] at he;obtain⟨rfl,rfl⟩:=he;refine⟨_,upd ρ h.length ⟨w.heap.size,0,1,1,undef⟩,w.alloc (.map #[] 0),Zn (x:= .map (some w.heap.size)) (by simp[Instr.makeMap]),.inl ?_,?_,yw _ _ _,by simp,by simp[wfV,wf]⟩
 ·simp[cv,c0,zx]
 ·refine R.newBlk _ _ rfl ((Below.refl _ _).alloc R.size _) (fun _=>zuB _) ?_ (fun k hk=>Below.heap_alloc _ _ _ hk) ?_
  ·show(w.heap.push _).size=_;rw[zwH]
  ·refine⟨R.size,by show _<(w.heap.push _).size;rw[zwH];exact zww _,⟨#[],?_,rfl,rfl⟩,fun x hx=>by cases hx⟩;show(w.heap.push (Obj.map #[] 0))[w.heap.size]? =_;simp
theorem zhA{t e:TypeId}{q:Bool}(hm:zdC P t=some (q,e)):∃k d,P.underlying t=some (.map k e)∧P.underlying k=some d∧((q=false∧∃i,d= .int i)∨(q=true∧d= .string)):=by
 unfold zdC at hm;split at hm
 ·rename_i k e' ht;split at hm
  ·rename_i i hk;obtain⟨rfl,rfl⟩:=zuP (zuw hm);exact⟨k,_,ht,hk,.inl ⟨rfl,i,rfl⟩⟩
  ·rename_i hk;obtain⟨rfl,rfl⟩:=zuP (zuw hm);exact⟨k,_,ht,hk,.inr ⟨rfl,rfl⟩⟩
  ·cases hm
 ·cases hm
theorem zeq{k:TypeId}{d:TypeDesc}{q:Bool}(hk:P.underlying k=some d)(hq:(q=false∧∃i,d= .int i)∨(q=true∧d= .string)){u:SV}(hu:Jq q u=true)(em:Bool):
 (Instr.checkKey em 10000 k (c0 ρ u)).run P w= .ok () w:=by
 rw[show(10000:Nat)=9999+1 from rfl];unfold Instr.checkKey;simp only[zuW,run_underlying hk,zuL]
 rcases hq with⟨rfl,i,rfl⟩|⟨rfl,rfl⟩<;>cases u<;>first
  |rfl
  |cases hu
theorem zaZ{d:TypeDesc}{q:Bool}(hq:(q=false∧∃i,d= .int i)∨(q=true∧d= .string)){u v:SV}(hu:Jq q u=true){b:Bool}(hb:zb2 u v=some b):Instr.sameNow d (c0 ρ u) (c0 ρ v)=some b:=by rcases hq with⟨rfl,i,rfl⟩|⟨rfl,rfl⟩<;>cases u<;>(try (cases hu;done))<;>cases v<;>simp only[zb2] at hb<;>(try (cases hb;done))<;>simp only[c0,Instr.sameNow]<;>exact hb
theorem zg7{d:TypeDesc}{q:Bool}(hq:(q=false∧∃i,d= .int i)∨(q=true∧d= .string)){u:SV}(hu:Jq q u=true):∀(es:List (SV×SV)) (ms:List MapEntry) (i:Nat) (r:Option SV),(ms.map fun e=>(e.key,e.val))=(es.map fun x=>(c0 ρ x.1,c0 ρ x.2))→getM u es=some r→
 ∃o,Instr.findNow d (c0 ρ u) ms i=some o∧o.map (·.2)=r.map (c0 ρ)
 |[],[],i,r,_,hg=>by
  obtain rfl:=zuw hg;exact⟨none,rfl,rfl⟩
 |[],_::_,_,_,hm,_=>by cases hm
 |_::_,[],_,_,hm,_=>by cases hm
 |e::es,m::ms,i,r,hm,hg=>by
  simp only[zuS,List.cons.injEq,zux] at hm;obtain⟨⟨m1,m2⟩,m3⟩:=hm;simp only[getM] at hg;split at hg
  ·rename_i hk;obtain rfl:=zuw hg;refine⟨some (i,m.val),?_,by simp[m2]⟩;simp only[Instr.findNow,m1,zaZ hq hu hk]
  ·rename_i hk;obtain⟨o,h1,h2⟩:=zg7 hq hu es ms (i+1) r m3 hg;refine⟨o,?_,h2⟩;simp only[Instr.findNow,m1,zaZ hq hu hk];exact h1
  ·cases hg
theorem z2(a b:ByteArray):(a==b)=decide (a=b):=by show ByteArray.beq a b=_;unfold ByteArray.beq;obtain⟨a⟩:=a;obtain⟨b⟩:=b;rw[zxf];simp
theorem znz{q:Bool}{u v:SV}(hu:Jq q u=true)(hb:zb2 u v=some true):Instr.sameBits 10000 (c0 ρ v) (c0 ρ u)=true:=by
 cases u<;>(try (cases hu;done))<;>cases v<;>simp only[zb2] at hb<;>(try (cases hb;done))
 ·split at hb
  ·rename_i hk;simp only[zuu,zv4] at hb;subst hk;subst hb;simp[c0,Instr.sameBits]
  ·cases hb
 ·simp only[zuu,z2,zuK] at hb;subst hb;simp[c0,Instr.sameBits,z2]
theorem zg9{d:TypeDesc}{q:Bool}(hq:(q=false∧∃i,d= .int i)∨(q=true∧d= .string)){u v:SV}(hu:Jq q u=true):∀(es:List (SV×SV)) (ms:List MapEntry) (i:Nat) (es':List (SV×SV)),(ms.map fun e=>(e.key,e.val))=(es.map fun x=>(c0 ρ x.1,c0 ρ x.2))→zgp u v es=some es'→
 ∃o,Instr.findNow d (c0 ρ u) ms i=some o∧((o=none∧es'=es++[(u,v)])∨∃j y,o=some (i+j,y)∧∃m,ms[j]? =some m∧Instr.sameBits 10000 m.key (c0 ρ u)=true∧es'=es.set j (u,v))
 |[],[],i,es',_,hg=>by
  obtain rfl:=zuw hg;exact⟨none,rfl,.inl ⟨rfl,rfl⟩⟩
 |[],_::_,_,_,hm,_=>by cases hm
 |_::_,[],_,_,hm,_=>by cases hm
 |e::es,m::ms,i,es',hm,hg=>by
  simp only[zuS,List.cons.injEq,zux] at hm;obtain⟨⟨m1,m2⟩,m3⟩:=hm;simp only[zgp] at hg;split at hg
  ·rename_i hk;obtain rfl:=zuw hg;refine⟨some (i,m.val),?_,.inr ⟨0,m.val,rfl,m,rfl,?_,rfl⟩⟩
   ·simp only[Instr.findNow,m1,zaZ hq hu hk]
   ·rw[m1];exact znz hu hk
  ·rename_i hk;obtain⟨es1,hg1,rfl⟩:=zuy.1 hg;obtain⟨o,h1,h2⟩:=zg9 hq hu es ms (i+1) es1 m3 hg1;refine⟨o,?_,?_⟩
   ·simp only[Instr.findNow,m1,zaZ hq hu hk];exact h1
   ·rcases h2 with⟨q0,q1⟩|⟨j,y,q0,m',q1,q2,q3⟩
    ·exact .inl ⟨q0,by rw[q1];rfl⟩
    ·exact .inr ⟨j+1,y,by rw[q0,show i+1+j=i+(j+1) by omega],m',q1,q2,by rw[q3];rfl⟩
  ·cases hg
theorem zkM{u v:SV}:∀{es es':List (SV×SV)},zgp u v es=some es'→∀x∈es',x∈es∨x=(u,v)
 |[],es',hg,x,hx=>by
  simp only[zgp,zuu] at hg;subst hg;exact .inr (zu9.1 hx)
 |e::es,es',hg,x,hx=>by
  simp only[zgp] at hg;split at hg
  ·simp only[zuu] at hg;subst hg;rcases zuO.1 hx with rfl|hx
   ·exact .inr rfl
   ·exact .inl (zvB _ hx)
  ·obtain⟨es1,hg1,rfl⟩:=zuy.1 hg;rcases zuO.1 hx with rfl|hx
   ·exact .inl zvN
   ·exact(zkM hg1 x hx).imp (zvB _) id
  ·cases hg
theorem zf0{u:SV}:∀{es:List (SV×SV)} {v:SV},getM u es=some (some v)→∃x∈es,x.2=v
 |[],v,hg=>by cases hg
 |e::es,v,hg=>by
  simp only[getM] at hg;split at hg
  ·simp only[zuu] at hg;exact⟨e,zvN,hg⟩
  ·obtain⟨x,h1,h2⟩:=zf0 hg;exact⟨x,zvB _ h1,h2⟩
  ·cases hg
theorem zkw(R:Rel P w0 ρ h w)(hF:FrR ρ h.length N fr a){t e:TypeId}{q:Bool}(ht:zdC P t=some (q,e)){m k x:Operand}{m' k' y:OD}(hm:zj m=some m')(hk:zj k=some k')(hx:zj x=some y){v:FV}{h':LH}(he:opE fr h (.mput q m' k' y)=some (v,h')):
 Res P w0 ρ h w (do Instr.mapUpdate t (a.eval m) (a.eval k) (a.eval x);pure Next.skip) v h':=by
 simp only[opE] at he;split at he
 ·rename_i i u z h1 h2 h3;split at he
  ·rename_i es hi;split at he
   ·rename_i hk';rw[zuE] at hk';obtain⟨es',hp,hq⟩:=zuy.1 he;obtain⟨rfl,rfl⟩:=zuP hq;obtain⟨e1,_⟩:=zh hF hm h1;obtain⟨e2,_⟩:=zh hF hk h2;obtain⟨e3,_⟩:=zh hF hx h3;obtain⟨b1,b2,⟨ms,b3,b4,b6⟩,b5⟩:=R.obj i _ hi;obtain⟨kt,d,t1,t2,t3⟩:=zhA ht;have emp:c0 ρ (.mp i)= .map (some (ρ i).blk):=rfl;obtain⟨o,f1,f2⟩:=zg9 (ρ:=ρ) t3 hk'.1 es ms.toList 0 es' b4 hp;have hck:=zeq (ρ:=ρ) (w:=w) t2 t3 hk'.1 false;have hfk:(Instr.findKey kt (c0 ρ u) ms.toList).run P w= .ok o w:=by
     simp only[Instr.findKey,zuW,run_underlying t2,zuL,f1,zvb]
    have hmem:∀x∈es',(∃q,Jq q x.1=true)∧nlS x.2=true:=fun x hx=>(zkM hp x hx).elim (b5 x) fun e=>by subst e;exact⟨⟨q,hk'.1⟩,hk'.2⟩
    have fin:∀(ms':Array MapEntry),(ms'.toList.map fun e=>(e.key,e.val))=(es'.map fun x=>(c0 ρ x.1,c0 ρ x.2))→ms'.toList.map (·.born)=List.range ms'.size→
     (Instr.mapUpdate t (c0 ρ (.mp i)) (c0 ρ u) (c0 ρ z)).run P w= .ok () {w with heap:=w.heap.setIfInBounds (ρ i).blk (.map ms' ms'.size)}→
     Res P w0 ρ h w (do Instr.mapUpdate t (a.eval m) (a.eval k) (a.eval x);pure Next.skip) (.tup []) (h.set i (.map es')):=by
     intro ms' hl hbn hr;refine⟨.skip,ρ,_,?_,.inr ⟨rfl,rfl⟩,R.setObj hi rfl b1 rfl (.map ms' ms'.size) ⟨b1,by simp;exact b2,⟨ms',by simp only[zv8 b2],hl,hbn⟩,hmem⟩,Ext.refl _ _,by rw[zvf];exact zuB _,fun v hv=>by cases hv⟩;rw[e1,e2,e3];simp only[zuW,hr,zuL,zvb]
    rcases f2 with⟨rfl,rfl⟩|⟨j,y',rfl,m1,q1,q2,rfl⟩
    ·refine fin (ms.push {key:=c0 ρ u,val:=c0 ρ z,born:=ms.size}) (by simp[b4]) (by simp[b6,zxS]) ?_;rw[zwH];simp only[Instr.mapUpdate,zuW,run_underlying t1,zuL,emp,MapKept.run_getObj_map b3,hck,hfk,MapKept.run_setObj_map _ b3]
    ·have hget:ms[j]? =some m1:=by rw[←q1];simp
     refine fin (ms.modify j fun e=>{e with key:=c0 ρ u,val:=c0 ρ z}) ?_ ?_ ?_
     ·have hj:j<ms.size:=(zv2.1 hget).1;rw[Array.toList_modify,List.map_set,←b4];apply zvS;intro n;rw[zvv,List.getElem?_modify];by_cases hn:j=n
      ·subst hn;simp[hj]
      ·rw[zuG hn,zvv];simp[hn]
     ·rw[Array.size_modify,←b6,Array.toList_modify];apply zvS;intro n;rw[zvv,List.getElem?_modify,zvv];by_cases hn:j=n
      ·subst hn;cases ms.toList[j]? <;>simp
      ·simp[hn]
     ·rw[Array.size_modify];have hstay:(Instr.keyThatStays m1.key (c0 ρ u)).run P w= .ok (c0 ρ u) w:=by
       unfold Instr.keyThatStays;rw[zuF q2];rfl
      simp only[zve] at hfk;simp only[Instr.mapUpdate,zuW,run_underlying t1,zuL,emp,MapKept.run_getObj_map b3,hck,hfk,hget,zuZ,zwx,hstay,MapKept.run_setObj_map _ b3]
   ·cases he
  ·cases he
 ·cases he
theorem zqD(R:Rel P w0 ρ h w)(hF:FrR ρ h.length N fr a){t e:TypeId}{q ok:Bool}{z:SV}(ht:zdC P t=some (q,e))(hz:zpw P e=some z)(hzn:nlS z=true){m k:Operand}{m' k':OD}(hm:zj m=some m')(hk:zj k=some k'){v:FV}{h':LH}(he:opE fr h (.mget q ok z m' k')=some (v,h')):
 Res P w0 ρ h w (do pure (Next.value (←Instr.lookup t (a.eval m) (a.eval k) ok))) v h':=by
 simp only[opE] at he;split at he
 ·rename_i i u h1 h2;split at he
  ·rename_i es hi;split at he
   ·rename_i hk';split at he
    ·rename_i r hg;obtain⟨rfl,rfl⟩:=zuP (zuw he);obtain⟨e1,_⟩:=zh hF hm h1;obtain⟨e2,_⟩:=zh hF hk h2;obtain⟨b1,b2,⟨ms,b3,b4,b6⟩,b5⟩:=R.obj i _ hi;obtain⟨kt,d,t1,t2,t3⟩:=zhA ht;have emp:c0 ρ (.mp i)= .map (some (ρ i).blk):=rfl;obtain⟨o,f1,f2⟩:=zg7 (ρ:=ρ) t3 hk' es ms.toList 0 r b4 hg;have hck:=zeq (ρ:=ρ) (w:=w) t2 t3 hk' ms.isEmpty;have hfk:(Instr.findKey kt (c0 ρ u) ms.toList).run P w= .ok o w:=by
      simp only[Instr.findKey,zuW,run_underlying t2,zuL,f1,zvb]
     have hzv:(zeroValue e).run P w= .ok (c0 ρ z) w:=by unfold zpw at hz;obtain⟨u0,hu0,hz⟩:=zuN.1 hz;obtain⟨i0,hi0,hu0⟩:=zuN.1 hu0;rw[zfw hz];exact yP hi0 hu0
     have hnl:nlS (r.getD z)=true:=by
      cases r with
      |none=>exact hzn
      |some v=>
       obtain⟨x,x1,rfl⟩:=zf0 hg;exact(b5 x x1).2
     have hrun:(Instr.lookup t (c0 ρ (.mp i)) (c0 ρ u) ok).run P w= .ok (if ok then .tuple #[c0 ρ (r.getD z),.bool r.isSome] else c0 ρ (r.getD z)) w:=by
      cases r with
      |none=>
       simp only[Option.map_none,Option.map_eq_none_iff] at f2;subst f2;simp only[Instr.lookup,zuW,run_underlying t1,zuL,emp,MapKept.run_getObj_map b3,zvb,hck,hfk,hzv,Option.getD_none,zxG]
      |some v=>
       obtain⟨⟨n,y⟩,rfl,hy⟩:=zuy.1 f2;simp only at hy;subst hy;simp only[Instr.lookup,zuW,run_underlying t1,zuL,emp,MapKept.run_getObj_map b3,zvb,hck,hfk,zwx,Option.isSome_some]
     refine Res.val R ?_ ?_
     ·rw[e1,e2,hrun];cases ok<;>rfl
     ·cases ok
      ·exact J3 hnl
      ·intro x hx;simp only[if_true,zuO,zvT,or_false] at hx;rcases hx with rfl|rfl
       ·exact J3 hnl
       ·trivial
    ·cases he
   ·cases he
  ·cases he
 ·cases he
theorem zqI(R:Rel P w0 ρ h w)(hF:FrR ρ h.length N fr a){ts:Array TypeId}{ty t k e:TypeId}(hts:ts[0]? =some t)(ht:P.underlying t=some (.map k e)){x:Operand}{y:OD}(hx:zj x=some y){v:FV}{h':LH}(he:opE fr h (.mlen y)=some (v,h')):
 Res P w0 ρ h w (do pure (Next.value (←Builtin.len_ ts ty #[a.eval x]))) v h':=by
 simp only[opE] at he;split at he
 ·rename_i i hs;split at he
  ·rename_i es hi;obtain⟨rfl,rfl⟩:=zuP (zuw he);obtain⟨e1,_⟩:=zh hF hx hs;obtain⟨b1,b2,⟨ms,b3,b4,b6⟩,b5⟩:=R.obj i _ hi;refine Res.val R ?_ trivial;have emp:c0 ρ (.mp i)= .map (some (ρ i).blk):=rfl;have hl:ms.size=es.length:=by
    have:=congrArg List.length b4;simpa using this
   rw[e1];simp only[Builtin.len_,hts,zwX,zvl,zuW,run_underlying ht,zuL,emp,MapKept.run_getObj_map b3,zvb,hl];rfl
  ·cases he
 ·cases he
theorem s2b_ok(R:Rel P w0 ρ h w)(hF:FrR ρ h.length N fr a){src dst e:TypeId}{i:TypeInfo}(hs:P.underlying src=some .string)(hd:P.underlying dst=some (.slice e))(he8:P.underlying e=some (.int .u8))(hi:P.info? e=some i)(h1:i.size=1)
 {x:Operand} {y:OD} (hx:zj x=some y) {v:FV} {h':LH} (he:opE fr h (.s2b e y)=some (v,h')):Res P w0 ρ h w (do pure (Next.value (←convert src dst (a.eval x)))) v h':=by
 simp only[opE] at he;split at he
 ·rename_i s hsy;obtain⟨rfl,rfl⟩:=zuP (zuw he);obtain⟨e1,_⟩:=zh hF hx hsy;have hP:P.cellsOf e=1:=by unfold Program.cellsOf;rw[hi];simp[h1]
  have hge:s.size≤grownCap w s.size 0 e:=zaH;have hcs:(Lib.bytesCells w e s).size=grownCap w s.size 0 e:=by simp[Lib.bytesCells];omega
  have hlen:(yK s).length=s.size:=by simp[yK]
  refine⟨_,upd ρ h.length ⟨w.heap.size,0,1,grownCap w s.size 0 e,undef⟩,Lib.bytesWorld w e s,Zn (by rw[e1];exact Lib.run_convert_string_bytes w src dst e s hs hd he8),.inl ?_,?_,yw _ _ _,by simp,?_⟩
  ·simp[cv,c0,zx,adr]
  ·refine R.newBlk _ _ rfl ⟨rfl,rfl,rfl,by rw[Lib.bytesWorld_size];omega,fun k hk=>Lib.bytesWorld_at_old w e s k (zvo hk R.size)⟩ (fun _=>show w.drawn≤(Lib.bytesWorld w e s).drawn from zwZ w.drawn) (Lib.bytesWorld_size w e s) (fun k hk=>Lib.bytesWorld_at_old w e s k hk) ?_;refine⟨R.size,by rw[Lib.bytesWorld_size];exact zww _,hP.symm,fun j hj=> ?_,fun j v hv=> ?_,by rw[hlen];simp only;omega,fun v hv=> ?_⟩
   ·simp only[zxK] at hj;simp only[zve];refine⟨?_,?_⟩
    ·simp only[World.cell?,Lib.bytesWorld_at_new];rw[zvu (by rw[hcs];exact hj)];rfl
    ·simp only[World.frozen?,Lib.bytesWorld_at_new,hcs];simp;omega
   ·simp only[zve];rw[zvv] at hv;obtain⟨u,hu,rfl⟩:=zuy.1 hv;have hj:j<s.size:=by rw[←hlen];exact(zuz.1 hu).1
    rw[Lib.bytesWorld_cell w e s j hj];simp only[yK,zvv] at hu;obtain⟨b,hb,rfl⟩:=zuy.1 hu;simp[List.getD,hb,c0]
   ·simp only[yK] at hv;obtain⟨b,_,rfl⟩:=zvQ.1 hv;trivial
  ·simp only[wfV,wf,zx,zuD,zuI];omega
 ·cases he
end
end
section
variable {P:Program} {w0:Base}
section
variable {ρ:Nat→Ph} {h:LH} {w:World} {N:Nat} {fr:Fr} {a:Act}
theorem zsN(R:Rel P w0 ρ h w)(hF:FrR ρ h.length N fr a){t e ty:TypeId}{i:TypeInfo}{z:List SV}{ts:Array TypeId}(hts:ts[0]? =some t)(ht:P.underlying t=some (.slice e))(hi:P.info? e=some i)(hz:ZW P e=some z)(h0:0<i.size)(hzl:z.length=i.size)
 {x:Operand} {y:OD} (hx:zj x=some y) {v:FV} {h':LH} (he:opE fr h (.clr e z y)=some (v,h')):
 Res P w0 ρ h w (do pure (Next.value (←Builtin.clear_ ts ty #[a.eval x]))) v h':=by
 simp only[opE] at he;split at he
 ·rename_i hs;simp only[zuu,zux] at he;obtain⟨rfl,rfl⟩:=he;obtain⟨e1,e2⟩:=zh hF hx hs;refine Res.val R ?_ (fun v hv=>by cases hv);rw[e1];simp[Builtin.clear_,hts,run_underlying ht,c0,cv]
 ·rename_i j p o hs;simp only[zuu,zux] at he;obtain⟨rfl,rfl⟩:=he;obtain⟨e1,e2⟩:=zh hF hx hs;refine Res.val R ?_ (fun v hv=>by cases hv);rw[e1];simp[Builtin.clear_,hts,run_underlying ht,c0,cv]
 ·rename_i j p o n hn hs;obtain⟨e1,e2⟩:=zh hF hx hs;split at he
  ·rename_i t' vs hob;split at he
   ·rename_i htt;subst htt;split at he
    ·rename_i hle;simp only[zuu,zux] at he;obtain⟨rfl,rfl⟩:=he;obtain⟨i',u,hi',hu,hcell,hwf⟩:=ZD hz ρ;rw[hi] at hi';obtain rfl:=zuw hi';obtain⟨b1,b2,b3,b4,b5,b6,b7⟩:=R.obj j _ hob;rw[yz hi] at b3;simp only[wf] at e2;have hn0:0<n:=zxk (fun e=>by subst e;exact hn rfl);have hle':=hle;rw[zvr] at hle';have hrl:o*z.length+(rep n z).length≤vs.length:=by rw[ZT];omega
     have hwz:∀q∈rep n z,wf ρ h.length q:=zjC (hwf _);have hst:=QT R hob (o:=o*z.length) (l:=rep n z) hrl hwz;refine⟨_,ρ,_,Zn ?_,.inl rfl,R.store hob (o:=o*z.length) (l:=rep n z) hrl hwz,Ext.refl _ _,by rw[zvf];exact zuB _,fun v hv=>by cases hv⟩;rw[e1];have hza:=Qs (ρ:=ρ) (z:=z) (by omega) n;have hzc:(Builtin.zeroCells u.cells n).toList=(rep n z).map (c0 ρ):=by rw[show Builtin.zeroCells u.cells n=((rep n z).map (c0 ρ)).toArray from ?_];rw[hcell];rw[←hza];simp[Builtin.zeroCells]
     have hadr:adr (ρ j) p o=⟨(ρ j).blk,(ρ j).base+o*z.length,none⟩:=by rw[qv (by omega),b3,hzl]
     have hc:c0 ρ (.sl j p o n)= .slice (some (adr (ρ j) p o)) n ((ρ j).cap-o):=rfl;rw[hc,hadr];obtain⟨n',rfl⟩:∃n',n=n'+1:=⟨n-1,by omega⟩
     simp only[Builtin.clear_,hts,zwX,zvl,zuW,run_underlying ht,zuL,yP hi hu,hzc,hst,zvb];rfl
    ·cases he
   ·cases he
  ·cases he
 ·cases he
theorem zgk(hF:FrR ρ h.length N fr a):∀{l:List Operand} {ys:List OD} {vs:List SV},yv l=some ys→zcg fr ys=some vs→l.map a.eval=vs.map (c0 ρ)
 |[],ys,vs,hc,he=>by
  simp only[yv,zuu] at hc;subst hc;simp only[zcg,zuu] at he;subst he;rfl
 |x::r,ys,vs,hc,he=>by
  simp only[yv] at hc;split at hc
  ·rename_i y hx;obtain⟨ys',hy,rfl⟩:=zuy.1 hc;simp only[zcg] at he;split at he
   ·rename_i v hv;obtain⟨vs',hvs,rfl⟩:=zuy.1 he;rw[zuS,zuS,(zh hF hx hv).1,zgk hF hy hvs]
   ·cases he
  ·cases hc
theorem zhE:∀(l:List SV) (k:IntKind) (n:Int) (r:SV),zbw k n l=some r→((l.map (c0 ρ)).foldlM Builtin.min2 (.int k n)).run P w= .ok (c0 ρ r) w∧∃m,r= .int k m
 |[],k,n,r,he=>by
  simp only[zbw,zuu] at he;subst he;exact⟨rfl,_,rfl⟩
 |v::l,k,n,r,he=>by
  cases v<;>simp only[zbw] at he<;>first
   |(cases he;done)
   |skip
  have:=zhE l k _ r he;simp only[zuS,List.foldlM_cons,zuW,c0,Builtin.min2,zvb,zuL];exact this
theorem zhB:∀(l:List SV) (k:IntKind) (n:Int) (r:SV),zbu k n l=some r→((l.map (c0 ρ)).foldlM Builtin.max2 (.int k n)).run P w= .ok (c0 ρ r) w∧∃m,r= .int k m
 |[],k,n,r,he=>by
  simp only[zbu,zuu] at he;subst he;exact⟨rfl,_,rfl⟩
 |v::l,k,n,r,he=>by
  cases v<;>simp only[zbu] at he<;>first
   |(cases he;done)
   |skip
  have:=zhB l k _ r he;simp only[zuS,List.foldlM_cons,zuW,c0,Builtin.max2,zvb,zuL];exact this
theorem zcM:∀{l:List SV} {bs:List UInt8},YT l=some bs→∃ns:List Int,l=ns.map (SV.int .u8)∧bs=ns.map (fun n=>UInt8.ofNat n.toNat)
 |[],bs,he=>by
  simp only[YT,zuu] at he;exact⟨[],rfl,he.symm⟩
 |v::l,bs,he=>by
  unfold YT at he;split at he
  ·rename_i h;cases h
  ·rename_i n r hq;obtain⟨rfl,rfl⟩:=List.cons.inj hq;obtain⟨bs',hb,rfl⟩:=zuy.1 he;obtain⟨ns,rfl,rfl⟩:=zcM hb;exact⟨n::ns,rfl,rfl⟩
  ·cases he
theorem zdl:∀(ns:List Int) (s:ByteArray),ns.foldl (fun r n=>r.push (UInt8.ofNat n.toNat)) s=⟨s.data++(ns.map (fun n=>UInt8.ofNat n.toNat)).toArray⟩
 |[],s=>by simp
 |n::ns,s=>by rw[zwp,zdl ns];simp[ByteArray.push]
theorem b2s_ok(R:Rel P w0 ρ h w)(hF:FrR ρ h.length N fr a){src dst e:TypeId}{i:TypeInfo}(ht:P.underlying src=some (.slice e))(hd:P.underlying dst=some .string)(hu8:P.underlying e=some (.int .u8))(hi:P.info? e=some i)(h1:i.size=1)
 {x:Operand} {y:OD} (hx:zj x=some y) {v:FV} {h':LH} (he:opE fr h (.b2s e y)=some (v,h')):
 Res P w0 ρ h w (do pure (Next.value (←convert src dst (a.eval x)))) v h':=by
 simp only[opE] at he;split at he
 ·rename_i u hu;split at he
  ·rename_i l hl;simp only[zuu,zux] at he;obtain⟨rfl,rfl⟩:=he;obtain⟨e1,e2⟩:=zh hF hx hu;obtain⟨cs,hcs,hb⟩:=zuN.1 hl;obtain⟨ns,rfl,rfl⟩:=zcM hb;refine Res.val R ?_ trivial;rw[e1];have hload:∀(p:Addr) (n:Nat),n=ns.length→(∀k c,((ns.map (SV.int .u8)).map (c0 ρ))[k]? =some c→w.cell? (p.add k)=some c)→(loadCells p n).run P w= .ok (ns.map (Value.int .u8)).toArray w:=by
    intro p n hn hc;have:=run_loadCells_list (P:=P) (w:=w) p (ns.map (Value.int .u8)) (fun j v hj=>hc j v (by rw[zwE];exact hj));rw[zuY] at this;rw[hn];exact this
   have fin:∀(p:Addr) (n cap:Nat),c0 ρ u= .slice (some p) n cap→n=ns.length→(∀k c,((ns.map (SV.int .u8)).map (c0 ρ))[k]? =some c→w.cell? (p.add k)=some c)→
    (convert src dst (c0 ρ u)).run P w= .ok (.string ⟨(ns.map (fun n=>UInt8.ofNat n.toNat)).toArray⟩) w:=by
    intro p n cap hc hn hk;rw[hc];simp only[convert,zuW,run_underlying ht,run_underlying hd,run_underlying hu8,zuL];rw[run_bytesToString w p n cap ns (hload p n hn hk),zdl];simp
   cases u<;>simp only[jW,zuu] at hcs<;>first
    |(cases hcs;done)
    |skip
   case nils=>
    have:ns=[]:=by simpa using hcs.symm
    subst this;simp[convert,run_underlying ht,run_underlying hd,run_underlying hu8,c0,Conv.bytesToString,cv,ByteArray.empty,ByteArray.emptyWithCapacity];rfl
   case sl0 j p o=>
    have:ns=[]:=by simpa using hcs.symm
    subst this;exact fin _ 0 0 rfl rfl (by simp)
   case sl j p o n=>
    by_cases h0:n=0
    ·subst h0;simp only[jW,zuu] at hcs;have:ns=[]:=by simpa using hcs.symm
     subst this;exact fin _ 0 _ rfl rfl (by simp)
    ·obtain⟨n',rfl⟩:∃n',n=n'+1:=⟨n-1,by omega⟩
     simp only[jW] at hcs;split at hcs
     ·rename_i t' vs hc;split at hcs
      ·rename_i htt;split at hcs
       ·rename_i hle;have hq:=zuw hcs;subst htt;obtain⟨q1,q2,q3,q4⟩:=R.cells hc;rw[yz hi,h1] at q2;simp only[wf] at e2;refine fin _ (n'+1) _ rfl ?_ ?_
        ·have:=congrArg List.length hq;rw[zuY,zuR,zvL] at this;rw[zvr] at hle;omega
        ·intro k c hk;rw[qv (by omega),Addr.add_mid,q2];rw[←hq,←JX] at hk;exact qF q1 (o*1) _ k c hk
       ·cases hcs
      ·cases hcs
     ·cases hcs
  ·cases he
 ·cases he
theorem zsx(R:Rel P w0 ρ h w)(hF:FrR ρ h.length N fr a){t tx ty e:TypeId}{i:TypeInfo}{z:Value}{ts:Array TypeId}(hsz:ts= #[t,tx])(ht:P.underlying t=some (.slice e))(hk:P.underlying tx=some (.slice e))(hi:P.info? e=some i)(hz:i.zero=some z)(hzs:z.cells.size=i.size)(h0:0<i.size)(hy:0<i.bytes)
 {x x':Operand} {y y':OD} (hx:zj x=some y) (hx':zj x'=some y') {v:FV} {h':LH} (he:opE fr h (.app e i.size i.bytes y y')=some (v,h')):
 Res P w0 ρ h w (do pure (Next.value (←Builtin.append_ ts ty #[a.eval x,a.eval x']))) v h':=by
 simp only[opE] at he;split at he
 ·rename_i u u' hu hu';obtain⟨e1,e2⟩:=zh hF hx hu;obtain⟨e3,e4⟩:=zh hF hx' hu';split at he
  ·rename_i n new hn hnew;subst hsz;obtain⟨hs,hwn,hln⟩:=zey (tx:=tx) R hi hk e4 hn hnew;obtain⟨ρ',w',q1,q2,q3,q4,q5⟩:=zjY (ty:=ty) R ht hi hz hzs h0 hy e2 hs hwn hln he;rw[e1,e3];exact⟨_,ρ',w',Zn q1,.inl rfl,q2,q3,q4,q5⟩
  ·cases he
 ·cases he
theorem zpN(R:Rel P w0 ρ h w)(hF:FrR ρ h.length N fr a){t tx ty e:TypeId}{i:TypeInfo}{z:Value}{ts:Array TypeId}(hsz:ts= #[t,tx])(ht:P.underlying t=some (.slice e))(hk:P.underlying tx=some .string)(hi:P.info? e=some i)(hz:i.zero=some z)(hzs:z.cells.size=i.size)(h1:i.size=1)(hy:0<i.bytes)
 {x x':Operand} {y y':OD} (hx:zj x=some y) (hx':zj x'=some y') {v:FV} {h':LH} (he:opE fr h (.apps e i.bytes y y')=some (v,h')):
 Res P w0 ρ h w (do pure (Next.value (←Builtin.append_ ts ty #[a.eval x,a.eval x']))) v h':=by
 simp only[opE] at he;split at he
 ·rename_i u s hu hu';obtain⟨e1,e2⟩:=zh hF hx hu;obtain⟨e3,e4⟩:=zh hF hx' hu';subst hsz;obtain⟨hs,hwn,hln⟩:=zri (P:=P) (w:=w) (ρ:=ρ) hk s h.length;rw[←h1] at hs hln he;obtain⟨ρ',w',q1,q2,q3,q4,q5⟩:=zjY (ty:=ty) R ht hi hz hzs (by omega) hy e2 hs hwn hln he;rw[e1,e3];exact⟨_,ρ',w',Zn q1,.inl rfl,q2,q3,q4,q5⟩
 ·cases he
theorem zjX{α:Type}{o:Option α}{p:α→Bool}(h:o.any p=true):∃x,o=some x∧p x=true:=by
 cases o with
 |none=>cases h
 |some x=>exact⟨x,rfl,h⟩
theorem ziE(R:Rel P w0 ρ h w)(hF:FrR ρ h.length N fr a){b:Builtin}{ts:Array TypeId}{ty:TypeId}{cs:Array Bool}{args:Array Operand}{ys:List OD}{e:EO}(hx:yv args.toList=some ys)(hc:JN P b ts ys=some e){v:FV}{h':LH}(he:opE fr h e=some (v,h')):
 Res P w0 ρ h w (builtin b ts ty cs (args.map a.eval)) v h':=by
 unfold JN at hc;split at hc
 ·--len
  rename_i y;obtain⟨x,rfl,hxy⟩:=one hx;rw[show(#[x]:Array Operand).map a.eval= #[a.eval x] by simp];split at hc
  ·rename_i hu;obtain rfl:=zuw hc;obtain⟨t,ht,hu⟩:=zuN.1 hu;exact zrd R hF ht hu hxy he
  ·rename_i e' hu;obtain rfl:=zuw hc;obtain⟨t,ht,hu⟩:=zuN.1 hu;exact zti R hF ht hu hxy he
  ·rename_i k' e' hu;obtain rfl:=zuw hc;obtain⟨t,ht,hu⟩:=zuN.1 hu;exact zqI R hF ht hu hxy he
  ·cases hc
 ·--append
  rename_i y y';obtain⟨x,x',rfl,hxy,hxy'⟩:=two hx;rw[show(#[x,x']:Array Operand).map a.eval= #[a.eval x,a.eval x'] by simp];split at hc
  ·rename_i e1 e2 h1 h2;obtain⟨t,ht,hu⟩:=zuN.1 h1;obtain⟨t',ht',hu'⟩:=zuN.1 h2;split at hc
   ·rename_i heq;subst heq;obtain⟨i,hi,hc⟩:=zuN.1 hc;split at hc
    ·rename_i hh;obtain rfl:=zuw hc;obtain⟨z,hz,hzs⟩:=zjX hh.2.2.1;exact zsx R hF (sizeTwo hh.2.2.2 ht ht') (jp hu) hu' hi hz (by simpa using hzs) hh.1 hh.2.1 hxy hxy' he
    ·cases hc
   ·cases hc
  ·rename_i e1 h1 h2;obtain⟨t,ht,hu⟩:=zuN.1 h1;obtain⟨t',ht',hu'⟩:=zuN.1 h2;obtain⟨i,hi,hc⟩:=zuN.1 hc;split at hc
   ·rename_i hh;obtain rfl:=zuw hc;obtain⟨z,hz,hzs⟩:=zjX hh.2.2.1;exact zpN R hF (sizeTwo hh.2.2.2 ht ht') (jp hu) hu' hi hz (by simpa using hzs) hh.1 hh.2.1 hxy hxy' he
   ·cases hc
  ·cases hc
 ·--copy
  rename_i y y';obtain⟨x,x',rfl,hxy,hxy'⟩:=two hx;rw[show(#[x,x']:Array Operand).map a.eval= #[a.eval x,a.eval x'] by simp];split at hc
  ·rename_i e1 e2 h1 h2;obtain⟨t,ht,hu⟩:=zuN.1 h1;obtain⟨t',ht',hu'⟩:=zuN.1 h2;split at hc
   ·obtain⟨i,hi,hc⟩:=zuN.1 hc;split at hc
    ·obtain rfl:=zuw hc;exact zpZ R hF ht ht' (jp hu) hu' hi hxy hxy' he
    ·cases hc
   ·cases hc
  ·cases hc
 ·--clear
  rename_i y;obtain⟨x,rfl,hxy⟩:=one hx;rw[show(#[x]:Array Operand).map a.eval= #[a.eval x] by simp];split at hc
  ·rename_i e1 h1;obtain⟨t,ht,hu⟩:=zuN.1 h1;obtain⟨i,hi,hc⟩:=zuN.1 hc;obtain⟨z,hz,hc⟩:=zuN.1 hc;split at hc
   ·rename_i h0;split at hc
    ·rename_i hzl;obtain rfl:=zuw hc;exact zsN R hF ht (jp hu) hi hz h0 hzl hxy he
    ·cases hc
   ·cases hc
  ·cases hc
 ·--min
  rename_i y r;obtain⟨x,l,hl,hxy,hr⟩:=more hx;obtain rfl:=zuw hc;simp only[opE] at he;split at he
  ·rename_i k n vs hv hvs;obtain⟨u,hu,hq⟩:=zuy.1 he;obtain⟨rfl,rfl⟩:=zuP hq;obtain⟨q1,m,rfl⟩:=zhE (P:=P) (w:=w) (ρ:=ρ) vs k n u hu;refine Res.val R ?_ trivial;simp only[Builtin.min_,zxL,hl,zuS,(zh hF hxy hv).1,zgk hF hr hvs];exact q1
  ·cases he
 ·--max
  rename_i y r;obtain⟨x,l,hl,hxy,hr⟩:=more hx;obtain rfl:=zuw hc;simp only[opE] at he;split at he
  ·rename_i k n vs hv hvs;obtain⟨u,hu,hq⟩:=zuy.1 he;obtain⟨rfl,rfl⟩:=zuP hq;obtain⟨q1,m,rfl⟩:=zhB (P:=P) (w:=w) (ρ:=ρ) vs k n u hu;refine Res.val R ?_ trivial;simp only[Builtin.max_,zxL,hl,zuS,(zh hF hxy hv).1,zgk hF hr hvs];exact q1
  ·cases he
 ·--real
  rename_i y;obtain⟨x,rfl,hxy⟩:=one hx;rw[show(#[x]:Array Operand).map a.eval= #[a.eval x] by simp];obtain rfl:=zuw hc;simp only[opE] at he;split at he
  ·rename_i k m n hv;simp only[zuu,zux] at he;obtain⟨rfl,rfl⟩:=he;refine Res.val R ?_ trivial;rw[(zh hF hxy hv).1];rfl
  ·cases he
 ·--imag
  rename_i y;obtain⟨x,rfl,hxy⟩:=one hx;rw[show(#[x]:Array Operand).map a.eval= #[a.eval x] by simp];obtain rfl:=zuw hc;simp only[opE] at he;split at he
  ·rename_i k m n hv;simp only[zuu,zux] at he;obtain⟨rfl,rfl⟩:=he;refine Res.val R ?_ trivial;rw[(zh hF hxy hv).1];rfl
  ·cases he
 ·--complex
  rename_i y y';obtain⟨x,x',rfl,hxy,hxy'⟩:=two hx;rw[show(#[x,x']:Array Operand).map a.eval= #[a.eval x,a.eval x'] by simp];obtain rfl:=zuw hc;simp only[opE] at he;split at he
  ·rename_i m n hv hv';simp only[zuu,zux] at he;obtain⟨rfl,rfl⟩:=he;refine Res.val R ?_ trivial;rw[(zh hF hxy hv).1,(zh hF hxy' hv').1];rfl
  ·cases he
 ·cases hc
where
 more:∀{args:Array Operand} {y:OD} {r:List OD},yv args.toList=some (y::r)→∃x l,args.toList=x::l∧zj x=some y∧yv l=some r:=by
  intro args y r h;cases hq:args.toList with
  |nil=>rw[hq] at h;simp[yv] at h
  |cons x l=>
   rw[hq] at h;simp only[yv] at h;split at h
   ·rename_i y' hy;obtain⟨ys,h1,h2⟩:=zuy.1 h;obtain⟨rfl,rfl⟩:=List.cons.inj h2;exact⟨x,l,rfl,hy,h1⟩
   ·cases h
 one:∀{args:Array Operand} {y:OD},yv args.toList=some [y]→∃x,args= #[x]∧zj x=some y:=by
  intro args y h;obtain⟨x,l,hl,h1,h2⟩:=more h;cases l with
  |nil=>exact⟨x,zxe (by simpa using hl),h1⟩
  |cons q r=>
   simp only[yv] at h2;split at h2
   ·obtain⟨_,_,h3⟩:=zuy.1 h2;cases h3
   ·cases h2
 two:∀{args:Array Operand} {y y':OD},yv args.toList=some [y,y']→∃x x',args= #[x,x']∧zj x=some y∧zj x'=some y':=by
  intro args y y' h;obtain⟨x,l,hl,h1,h2⟩:=more h;obtain⟨x',rfl,h3⟩:=one (args:=l.toArray) (by simpa using h2)|>fun⟨x',h4,h5⟩=>(⟨x',by simpa using congrArg Array.toList h4,h5⟩:∃x',l=[x']∧zj x'=some y')
  exact⟨x,x',zxe (by simpa using hl),h1,h3⟩
 sizeTwo:∀{ts:Array TypeId} {t t':TypeId},ts.size=2→ts[0]? =some t→ts[1]? =some t'→ts= #[t,t']:=by
  intro ts t t' h h0 h1;apply Array.ext
  ·simp[h]
  ·intro i hi _;have:i=0∨i=1:=by omega
   rcases this with rfl|rfl
   ·rw[zvu hi] at h0;simpa using h0
   ·rw[zvu hi] at h1;simpa using h1
end
end
section
variable {P:Program} {w0:Base}
section
variable {ρ:Nat→Ph} {h:LH} {w:World} {N:Nat} {fr:Fr} {a:Act}
theorem ztG(R:Rel P w0 ρ h w)(hF:FrR ρ h.length N fr a){o:Oper}{e:EO}(hc:Q1 P o.type o.op=some e){v:FV}{h':LH}(he:opE fr h e=some (v,h')):Res P w0 ρ h w (execOp a.eval o) v h':=by
 unfold execOp;cases hop:o.op<;>rw[hop] at hc<;>simp only[Q1] at hc<;>try (cases hc;done)
 case panic x=>
  obtain rfl:=zuw hc;simp[opE,odS,odE] at he
 case move x=>
  obtain⟨y,hy,rfl⟩:=zuy.1 hc;simp only[opE] at he;obtain⟨u,hu,hq⟩:=zuy.1 he;obtain⟨rfl,rfl⟩:=zuP hq;obtain⟨e1,e2⟩:=yZ hF hy hu;exact Res.same R (by simp only;rw[e1];rfl) e2
 case assign x=>
  obtain⟨y,hy,rfl⟩:=zuy.1 hc;simp only[opE] at he;obtain⟨u,hu,hq⟩:=zuy.1 he;obtain⟨rfl,rfl⟩:=zuP hq;obtain⟨e1,e2⟩:=yZ hF hy hu;exact Res.same R (by simp only;rw[e1];rfl) e2
 case pick c x y=>
  split at hc
  ·rename_i c' x' y' h1 h2 h3;obtain rfl:=zuw hc;simp only[opE] at he;split at he
   ·rename_i t p q g1 g2 g3;simp only[zuu,zux] at he;obtain⟨rfl,rfl⟩:=he;obtain⟨e1,_⟩:=zh hF h1 g1;obtain⟨e2,w2⟩:=yZ hF h2 g2;obtain⟨e3,w3⟩:=yZ hF h3 g3;refine Res.same R ?_ ?_
    ·simp only[e1,e2,e3,c0,asBool,zuW,zvb,zuL];cases t<;>rfl
    ·cases t
     ·exact w3
     ·exact w2
   ·cases he
  ·cases hc
 case alloc t=>
  split at hc
  ·rename_i n z ht hz;split at hc
   ·rename_i h0;obtain rfl:=zuw hc;simp only[opE,odE,zwi,jz] at he;split at he
    ·rename_i hn;simp only[zuu,zux] at he;obtain⟨rfl,rfl⟩:=he;obtain⟨i,u,hi,hu,hcell,hwf⟩:=ZD hz ρ;refine zjk R ht (fv:= .agg z) (hwf _) rfl hn ?_;have hcc:(cv ρ (.agg z)).cells=(z.map (c0 ρ)).toArray:=rfl;simp[Instr.alloc,yP hi hu,newVar,hcell,hcc]
    ·cases he
   ·cases hc
  ·rename_i u1 ht hz;obtain rfl:=zuw hc;simp only[opE,odE,zwi,jz] at he;split at he
   ·rename_i hn;simp only[zuu,zux] at he;obtain⟨rfl,rfl⟩:=he;obtain⟨i,u,hi,hu,hcell,hwf⟩:=ZD hz ρ;have hw1:wfV ρ h.length (.s u1):=hwf _ u1 zvN;refine zjk R ht (fv:= .s u1) hw1 rfl hn ?_;have hcc:=zaq (ρ:=ρ) (v:= .s u1) (l:=[u1]) rfl hw1;simp[Instr.alloc,yP hi hu,newVar,hcell,hcc]
   ·cases he
  ·cases hc
 case box t x=>
  split at hc
  ·rename_i g n y ht hy;split at hc
   ·obtain rfl:=zuw hc;simp only[opE] at he;split at he
    ·rename_i l hl;split at he
     ·rename_i hn;simp only[zuu,zux] at he;obtain⟨rfl,rfl⟩:=he;obtain⟨u,hu,hfc⟩:=zuN.1 hl;obtain⟨e1,e2⟩:=yZ hF hy hu;exact zjk R ht e2 hfc hn (by rw[e1];simp[Instr.box])
     ·cases he
    ·cases he
   ·cases hc
  ·cases hc
 case build t parts=>
  split at hc
  ·rename_i z pl hz hp;obtain⟨ps,hps,rfl⟩:=zuy.1 hc;exact zmU R hF hz hp hps he
  ·cases hc
 case buildSlice t n parts=>
  split at hc
  ·rename_i e' ht;split at hc
   ·rename_i i z hi hz;split at hc
    ·rename_i hle;split at hc
     ·rename_i h0;split at hc
      ·rename_i hzl;obtain⟨ps,hps,rfl⟩:=zuy.1 hc;exact zsH R hF (jp ht) hi hz hle h0 hzl hps he
      ·cases hc
     ·cases hc
    ·cases hc
   ·cases hc
  ·cases hc
 case load t x=>
  split at hc
  ·rename_i g n y ht hy;obtain rfl:=zuw hc;exact zqy R hF ht hy he
  ·cases hc
 case store t x z=>
  split at hc
  ·rename_i g n y y' ht hy hy';obtain rfl:=zuw hc;exact zoB R hF ht hy hy' he
  ·cases hc
 case nilCheck x=>
  split at hc
  ·obtain⟨y,hy,rfl⟩:=zuy.1 hc;simp only[opE] at he;split at he
   ·rename_i i hs;obtain⟨e1,e2⟩:=zh hF hy hs;split at he
    ·rename_i f fs cs hob;simp only[zuu,zux] at he;obtain⟨rfl,rfl⟩:=he;obtain⟨q1,q2,q3⟩:=R.obj i _ hob;refine Res.same R ?_ e2;have hv:a.eval x= .func (.func f) (fs.map (c1 ρ)).toArray (cs.map (c1 ρ)).toArray:=by rw[e1];exact q1
     have hw':cv ρ (.s (.cl i))= .func (.func f) (fs.map (c1 ρ)).toArray (cs.map (c1 ρ)).toArray:=q1;simp only[hv,hw',zvb]
    ·cases he
   ·rename_i f hs;simp only[zuu,zux] at he;obtain⟨rfl,rfl⟩:=he;obtain⟨e1,e2⟩:=zh hF hy hs;refine Res.same R ?_ e2;simp only[e1,c0,zvb,cv]
   ·cases he
  ·obtain⟨y,hy,rfl⟩:=zuy.1 hc;simp only[opE] at he;split at he
   ·rename_i i p hs;simp only[zuu,zux] at he;obtain⟨rfl,rfl⟩:=he;obtain⟨e1,e2⟩:=zh hF hy hs;refine Res.same R ?_ e2;simp only[e1,c0,zvb,cv]
   ·cases he
 case binOp op t x y q=>
  split at hc
  ·rename_i x' y' hx hy;have bin:e= .bin op x' y'→Res P w0 ρ h w (do pure (Next.value (←(do eqGuard op t x y (a.eval x) (a.eval y);binOp op t (a.eval x) (a.eval y):Sem Value)))) v h':=by
    rintro rfl;simp only[opE] at he;split at he
    ·rename_i p r hp hr;obtain⟨u,hu,hq⟩:=zuy.1 he;obtain⟨rfl,rfl⟩:=zuP hq;refine Res.val R ?_ (zpR hu _);rw[(zh hF hx hp).1,(zh hF hy hr).1];exact zom hu t x y
    ·cases he
   have eqs:(op= .eql∨op= .neq)→zkb P op t x' y'=some e→Res P w0 ρ h w (do pure (Next.value (←(do eqGuard op t x y (a.eval x) (a.eval y);binOp op t (a.eval x) (a.eval y):Sem Value)))) v h':=by
    intro hop hcb
    have hcb':(match P.underlying t with
     |some .bool=>some (EO.eqb (decide (op= .neq)) x' y')
     |some (.pointer _)=>some (.eqp (decide (op= .neq)) x' y')
     |some (.slice _)=>some (.eqn (decide (op= .neq)) x' y')
     |some (.struct fs)=>
      if P.eqGuardType P.depth t then none
      else if P.stoodInHeld t then none
      else(qa P fs.toList).map fun l=> .eqs (decide (op= .neq)) l x' y'
     |some (.int _)|some .string|some (.float _)|some (.complex _)=>some (.bin op x' y')
     |_=>none)=some e:=by
     rcases hop with rfl|rfl<;>exact hcb
    split at hcb'
    ·rename_i hu;obtain rfl:=zuw hcb';simp only[opE] at he;split at he
     ·rename_i p r hp hr;simp only[zuu,zux] at he;obtain⟨rfl,rfl⟩:=he;refine Res.val R ?_ (by simp[Y7,wfV,wf]);rw[(zh hF hx hp).1,(zh hF hy hr).1];exact zq8 hu p r hop x y
     ·cases he
    ·rename_i hu;obtain rfl:=zuw hcb';simp only[opE] at he;split at he
     ·rename_i p r hp hr;obtain⟨u,hu',hq⟩:=zuy.1 he;obtain⟨rfl,rfl⟩:=zuP hq;refine Res.val R ?_ (by simp[Y7,wfV,wf]);rw[(zh hF hx hp).1,(zh hF hy hr).1];exact zoo hu hu' hop x y
     ·cases he
    ·rename_i hu;obtain rfl:=zuw hcb';simp only[opE] at he;split at he
     ·rename_i p r hp hr;obtain⟨u,hu',hq⟩:=zuy.1 he;obtain⟨rfl,rfl⟩:=zuP hq;refine Res.val R ?_ (by simp[Y7,wfV,wf]);rw[(zh hF hx hp).1,(zh hF hy hr).1];exact zon hu hu' hop x y
     ·cases he
    ·rename_i fs hu;split at hcb'
     ·cases hcb'
     ·rename_i hg;split at hcb'
      ·cases hcb'
      ·rename_i hst;obtain⟨l,hl,rfl⟩:=zuy.1 hcb';simp only[opE] at he;split at he
       ·rename_i p r hp hr;obtain⟨u,hu',hq⟩:=zuy.1 he;obtain⟨rfl,rfl⟩:=zuP hq;refine Res.val R ?_ (by simp[Y7,wfV,wf]);rw[(yZ hF hx hp).1,(yZ hF hy hr).1];exact zq9 hu (by simpa using hg) (by simpa using hst) hl hu' hop x y
       ·cases he
    all_goals first
     |exact bin (zuw hcb').symm
     |cases hcb'
   cases op<;>first
    |exact eqs (.inl rfl) hc
    |exact eqs (.inr rfl) hc
    |exact bin (zuw hc).symm
  ·cases hc
 case unOp op t x=>
  obtain⟨y,hy,rfl⟩:=zuy.1 hc;simp only[opE] at he;split at he
  ·rename_i u hu;obtain⟨r,hr,hq⟩:=zuy.1 he;obtain⟨rfl,rfl⟩:=zuP hq;obtain⟨q1,q2⟩:=zt6 (P:=P) (w:=w) (ρ:=ρ) hr;refine Res.val R ?_ (q2 _);rw[(zh hF hy hu).1];exact q1
  ·cases he
 case convert src dst x=>
  split at hc
  ·rename_i y hy;split at hc
   ·rename_i k1 k hs hd;obtain rfl:=zuw hc;simp only[opE] at he;split at he
    ·rename_i k2 n hn;simp only[zuu,zux] at he;obtain⟨rfl,rfl⟩:=he;refine Res.val R ?_ trivial;rw[(zh hF hy hn).1];simp only[convert,zuW,run_underlying hs,run_underlying hd,zuL,c0,Conv.intToInt,zvb,cv]
    ·cases he
   ·rename_i k1 k hs hd;obtain rfl:=zuw hc;simp only[opE] at he;split at he
    ·rename_i k2 n hn;simp only[zuu,zux] at he;obtain⟨rfl,rfl⟩:=he;refine Res.val R ?_ trivial;rw[(zh hF hy hn).1];simp only[convert,zuW,run_underlying hs,run_underlying hd,zuL,c0,Conv.intToFloat,zvb,cv]
    ·cases he
   ·rename_i k1 k hs hd;obtain rfl:=zuw hc;simp only[opE] at he;split at he
    ·rename_i k2 n hn;split at he
     ·rename_i m hm;split at he
      ·rename_i hle;simp only[zuu,zux] at he;obtain⟨rfl,rfl⟩:=he;refine Res.val R ?_ trivial;rw[(zh hF hy hn).1];simp only[convert,zuW,run_underlying hs,run_underlying hd,zuL,c0,Conv.floatToInt,hm,hle,and_self,if_true,zvb,cv]
      ·cases he
     ·cases he
    ·cases he
   ·rename_i e' hs hd;split at hc
    ·rename_i hu8;obtain⟨i,hi,hc⟩:=zuN.1 hc;split at hc
     ·rename_i h1;obtain rfl:=zuw hc;refine b2s_ok R hF hs hd ?_ hi h1 hy he;simpa using hu8
     ·cases hc
    ·cases hc
   ·rename_i e' hs hd;split at hc
    ·rename_i hu8;obtain⟨i,hi,hc⟩:=zuN.1 hc;split at hc
     ·rename_i h1;obtain rfl:=zuw hc;refine s2b_ok R hF hs hd ?_ hi h1 hy he;simpa using hu8
     ·cases hc
    ·cases hc
   ·cases hc
  ·cases hc
 case range t x=>
  split at hc
  ·rename_i ht;obtain⟨y,hy,rfl⟩:=zuy.1 hc;exact ztQ R hF (zdr ht) hy he
  ·cases hc
 case next x s=>
  split at hc
  ·rename_i hs;subst hs;obtain⟨y,hy,rfl⟩:=zuy.1 hc;exact ztE R hF hy he
  ·cases hc
 case makeMap t r=>
  split at hc
  ·rename_i hr;obtain rfl:=zuw hc;rw[zxa] at hr;subst hr;exact ztu R he
  ·cases hc
 case insert t m k x=>
  split at hc
  ·rename_i q e' m' k' x' ht hm hk hx;obtain rfl:=zuw hc;exact zkw R hF ht hm hk hx he
  ·cases hc
 case mapUpdate t m k x=>
  split at hc
  ·rename_i q e' m' k' x' ht hm hk hx;obtain rfl:=zuw hc;exact zkw R hF ht hm hk hx he
  ·cases hc
 case lookup t m k ok=>
  split at hc
  ·rename_i q e' m' k' ht hm hk;split at hc
   ·rename_i z hz;split at hc
    ·rename_i hn;obtain rfl:=zuw hc;exact zqD R hF ht hz hn hm hk he
    ·cases hc
   ·cases hc
  ·cases hc
 case makeInterface t x=>
  split at hc
  ·cases hc
  ·rename_i d y hni hu hy;obtain rfl:=zuw hc;exact ztt R hF hu (fun ms hd=>by subst hd;exact hni _ rfl) hy he
  ·cases hc
 case makeFunc fn first caps=>
  cases fn<;>simp only at hc<;>try (cases hc;done)
  split at hc
  ·split at hc
   ·rename_i x y hx hy;obtain rfl:=zuw hc;exact zts R hF hx hy he
   ·cases hc
  ·cases hc
 case makeSlice t l c=>
  split at hc
  ·rename_i e' y ht hy;split at hc
   ·rename_i i z hi hz;split at hc
    ·rename_i hs;split at hc
     ·rename_i h0;split at hc
      ·rename_i hzl;obtain rfl:=zuw hc;exact ztv R hF (jp ht) hi hz hs h0.1 h0.2 hzl hy he
      ·cases hc
     ·cases hc
    ·cases hc
   ·cases hc
  ·cases hc
 case slice t x lo hi mx=>
  cases mx with
  |some m=>
   simp only at hc;split at hc
   ·rename_i e' y u ht hy;split at hc
    ·rename_i hn;obtain rfl:=zuw hc;rw[zuE,zuE] at hn;obtain⟨i,hi'⟩:=zvV.1 hn.2;exact zre R hF (jp ht) hi' hy hn.1.1 hn.1.2 he
    ·cases hc
   ·cases hc
  |none=>
   simp only at hc;split at hc
   ·rename_i y l u hy hl hu;split at hc
    ·rename_i hstr;obtain rfl:=zuw hc;exact zrj R hF hy hl hu (zdr hstr) he
    ·split at hc
     ·rename_i e' ht;obtain⟨i,hi',hc⟩:=zuN.1 hc;split at hc
      ·obtain rfl:=zuw hc;exact ztY R hF hy hl hu (jp ht) hi' rfl he
      ·cases hc
     ·cases hc
   ·cases hc
 case fieldAddr s x f=>
  split at hc
  ·rename_i g y hg hy;obtain⟨i,hi,hc⟩:=zuN.1 hc;split at hc
   ·rename_i h0;obtain rfl:=zuw hc;exact zs4 R hF hg hi h0 hy he
   ·cases hc
  ·cases hc
 case field s x f=>
  split at hc
  ·rename_i g y hg hy;obtain⟨⟨q,n⟩,ht,rfl⟩:=zuy.1 hc;exact zs6 R hF hg ht hy he
  ·cases hc
 case indexAddr t x i=>
  split at hc
  ·rename_i e' y j ht hy hj;obtain⟨i',hi,hc⟩:=zuN.1 hc;split at hc
   ·obtain rfl:=zuw hc;exact ztb R hF (jp ht) hi hy hj he
   ·cases hc
  ·cases hc
 case index t x i=>
  split at hc
  ·rename_i y j ht hy hj;obtain rfl:=zuw hc;exact ztc R hF (zdr ht) hy hj he
  ·cases hc
 case extract x i=>
  obtain⟨y,hy,rfl⟩:=zuy.1 hc;exact zs3 R hF hy he
 case call c=>
  unfold zcW at hc;split at hc
  ·rename_i b hb;obtain⟨ys,hys,hc⟩:=zuN.1 hc;simp only[resolve,hb,pure_bind,invoke];exact ziE R hF hys hc he
  ·split at hc
   ·obtain⟨ys,hys,rfl⟩:=zuy.1 hc;cases he
   ·cases hc
  ·obtain⟨ys,hys,rfl⟩:=zuy.1 hc;cases he
  ·cases hc
end
end
end Go.Proofs.YtdmcfjkgopmlgaaGreatDoor.Ev

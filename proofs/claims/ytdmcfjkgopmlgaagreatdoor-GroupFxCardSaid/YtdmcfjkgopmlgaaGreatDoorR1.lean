import Derived.RowKit
import Derived.Deep.MidRow
import Derived.Deep.AppendSrc
import Derived.Deep.Upon
import Derived.Deep.Draws
import Derived.Laws.NewBlocks
import Derived.Laws.World
import Derived.Lib.EndianMore
import Derived.Below
import Derived.Orders
import Derived.LoopN
import Derived.Laws.StructEq
import Derived.Laws.BytesString
import Derived.MapKept
import Derived.Laws.RangeString
import Derived.Lib.ConvBytes
import Derived.Laws.Cells
set_option linter.unusedVariables false
set_option linter.unusedSimpArgs false
set_option linter.unusedSectionVars false
namespace Go.Proofs.YtdmcfjkgopmlgaaGreatDoor.Ev
open Go
abbrev zuE:= @Option.some.injEq
abbrev zuF:= @Nat.le_of_ble_eq_true
abbrev zuG:= @Option.some.inj
abbrev zuH:= @Prod.mk.injEq
abbrev zuI:= @Option.map_eq_some_iff
abbrev zuJ:= @List.getElem?_eq_some_iff
abbrev zuK:= @List.getElem?_append_left
abbrev zuL:= @Nat.le_refl
abbrev zuM:= @List.length_append
abbrev zuN:= @List.getElem?_append_right
abbrev zuO:= @if_pos
abbrev zuP:= @Bool.and_eq_true
abbrev zuQ:= @if_neg
abbrev zuR:= @List.getElem?_set_ne
abbrev zuS:= @List.length_singleton
abbrev zuT:= @Result.andThen_ok
abbrev zuU:= @Option.bind_eq_some_iff
abbrev zuV:= @List.getElem?_eq_getElem
abbrev zuW:= @decide_eq_true_eq
abbrev zuX:= @List.mem_cons
abbrev zuY:= @List.mem_append
abbrev zuZ:= @Prod.mk.inj
abbrev zu0:= @List.length_take
abbrev zu1:= @List.getElem?_set_self
abbrev zu2:= @List.map_cons
abbrev zu3:= @List.take_succ_cons
abbrev zu4:= @List.all_eq_true
abbrev zu5:= @Sem.run_bind
abbrev zu6:= @List.take_succ_eq_append_getElem
abbrev zu7:= @List.pairwise_cons
abbrev zu8:= @List.drop_zero
abbrev zu9:= @List.length_map
abbrev zva:= @Bool.false_eq_true
abbrev zvb:= @Option.map_some
abbrev zvc:= @List.append_assoc
abbrev zvd:= @List.drop_succ_cons
abbrev zve:= @List.take_length
abbrev zvf:= @Nat.mul_le_mul_right
abbrev zvg:= @Sem.run_pure
abbrev zvh:= @List.getElem?_take
abbrev zvi:= @List.length_set
abbrev zvj:= @List.take_append_drop
abbrev zvk:= @List.getElem_mem
abbrev zvl:= @List.append_nil
abbrev zvm:= @List.mem_singleton
abbrev zvn:= @Nat.zero_add
abbrev zvo:= @List.map_congr_left
abbrev zvp:= @List.map_append
abbrev zvq:= @List.drop_eq_getElem_cons
abbrev zvr:= @List.length_cons
abbrev zvs:= @List.take_zero
abbrev zvt:= @List.getElem?_cons_zero
abbrev zvu:= @Nat.min_eq_left
abbrev zvv:= @Nat.add_mul
abbrev zvw:= @List.flatMap_append
abbrev zvx:= @List.mem_filter
abbrev zvy:= @Array.getElem?_eq_getElem
abbrev zvz:= @Nat.le_trans
abbrev zvA:= @List.take_of_length_le
abbrev zvB:= @Nat.lt_of_lt_of_le
abbrev zvC:= @List.getElem?_map
abbrev zvD:= @List.mem_cons_of_mem
abbrev zvE:= @List.mem_of_getElem?
abbrev zvF:= @Array.getD_eq_getD_getElem?
abbrev zvG:= @Nat.sub_self
abbrev zvH:= @List.getElem?_drop
abbrev zvI:= @Nat.add_sub_cancel_left
abbrev zvJ:= @Bool.or_eq_true
abbrev zvK:= @List.getElem?_eq_none
abbrev zvL:= @List.getElem?_cons_succ
abbrev zvM:= @List.mem_of_mem_take
abbrev zvN:= @List.flatMap_cons
abbrev zvO:= @List.set_append_right
abbrev zvP:= @Nat.zero_mul
abbrev zvQ:= @List.length_drop
abbrev zvR:= @List.mem_flatMap
abbrev zvS:= @List.not_mem_nil
abbrev zvT:= @List.mem_cons_self
abbrev zvU:= @List.eq_nil_of_length_eq_zero
abbrev zvV:= @List.mem_map
abbrev zvW:= @List.nodup_append
abbrev zvX:= @List.mem_append_left
abbrev zvY:= @decide_eq_false_iff_not
abbrev zvZ:= @decide_eq_true
abbrev zv0:= @List.ext_getElem?
abbrev zv1:= @List.length_nil
abbrev zv2:= @decide_eq_false
abbrev zv3:= @Option.isSome_iff_exists
abbrev zv4:= @Int.tdiv_eq_ediv_of_nonneg
abbrev zv5:= @List.cons_append
abbrev zv6:= @List.length_filter_le
abbrev zv7:= @List.mem_of_find?_eq_some
abbrev zv8:= @List.take_left'
abbrev zv9:= @List.map_nil
abbrev zwa:= @Nat.add_zero
abbrev zwb:= @Array.getElem?_eq_some_iff
abbrev zwc:= @ByteArray.toList_eq
abbrev zwd:= @Nat.add_assoc
abbrev zwe:= @List.size_toArray
abbrev zwf:= @beq_iff_eq
abbrev zwg:= @List.getElem_cons_succ
abbrev zwh:= @Array.getElem?_setIfInBounds_self_of_lt
abbrev zwi:= @List.filter_sublist
abbrev zwj:= @List.nil_append
abbrev zwk:= @Nat.lt_or_ge
abbrev zwl:= @List.mem_range
abbrev zwm:= @List.sum_cons
abbrev zwn:= @List.mem_of_mem_drop
abbrev zwo:= @Array.eq_empty_of_size_eq_zero
abbrev zwp:= @List.all_cons
abbrev zwq:= @List.filter_cons
abbrev zwr:= @Option.bind_some
abbrev zws:= @Nat.zero_le
abbrev zwt:= @List.mem_append_right
abbrev zwu:= @Int.natCast_add
abbrev zwv:= @List.foldl_cons
abbrev zww:= @Classical.not_and_iff_not_or_not
abbrev zwx:= @List.getD_eq_getElem?_getD
abbrev zwy:= @Array.getElem?_setIfInBounds_ne
abbrev zwz:= @Int.zero_add
abbrev zwA:= @Nat.two_pow_pos
abbrev zwB:= @List.filter_append
abbrev zwC:= @List.find?_eq_none
abbrev zwD:= @List.getElem_append_left
abbrev zwE:= @Int.mul_le_mul_of_nonneg_left
abbrev zwF:= @List.any_eq_true
abbrev zwG:= @Nat.lt_succ_self
abbrev zwH:= @Option.getD_some
abbrev zwI:= @List.take_take
abbrev zwJ:= @List.sum_append
abbrev zwK:= @Nat.pow_add
abbrev zwL:= @List.drop_eq_nil_of_le
abbrev zwM:= @Array.getElem?_append_left
abbrev zwN:= @List.map_map
abbrev zwO:= @List.mem_iff_getElem?
abbrev zwP:= @Nat.succ_mul
abbrev zwQ:= @Array.size_push
abbrev zwR:= @Bool.not_eq_true'
abbrev zwS:= @List.pairwise_map
abbrev zwT:= @List.getElem!_eq_getElem?_getD
abbrev zwU:= @List.getElem_of_mem
abbrev zwV:= @List.map_take
abbrev zwW:= @List.mem_map_of_mem
abbrev zwX:= @List.take_append_of_le_length
abbrev zwY:= @Nat.le_add_right
abbrev zwZ:= @List.drop_drop
abbrev zw0:= @List.drop_take
abbrev zw1:= @Array.getElem?_setIfInBounds
abbrev zw2:= @Int.sub_eq_add_neg
abbrev zw3:= @Bool.and_eq_false_iff
abbrev zw4:= @Int.mul_add
abbrev zw5:= @List.contains_iff_mem
abbrev zw6:= @List.getElem?_toArray
abbrev zw7:= @List.set_getElem_self
abbrev zw8:= @Nat.le_succ
abbrev zw9:= @Nat.mul_lt_mul_of_pos_right
abbrev zxa:= @Array.size_append
abbrev zxb:= @List.flatten_cons
abbrev zxc:= @List.dropLast_concat
abbrev zxd:= @Int.mul_nonneg
abbrev zxe:= @List.getElem?_eq_none_iff
abbrev zxf:= @List.getLast?_eq_getElem?
abbrev zxg:= @List.getLast?_eq_some_iff
abbrev zxh:= @Option.isNone_iff_eq_none
abbrev zxi:= @List.map_flatMap
abbrev zxj:= @Array.length_toList
abbrev zxk:= @Nat.mul_le_mul_left
abbrev zxl:= @Array.ext'
abbrev zxm:= @Bool.and_true
abbrev zxn:= @Nat.mul_assoc
abbrev zxo:= @Nat.mul_ne_zero
abbrev zxp:= @Nat.pos_of_ne_zero
abbrev zxq:= @List.zipWith_cons_cons
abbrev zxr:= @List.all_eq_false
abbrev zxs:= @Nat.lt_trichotomy
abbrev zxt:= @Int.mul_le_mul_of_nonneg_right
abbrev zxu:= @Int.mul_tdiv_add_tmod
abbrev zxv:= @List.drop_append_of_le_length
abbrev zxw:= @List.getElem_map
abbrev zxx:= @List.mem_flatten
abbrev zxy:= @List.mem_of_getLast?
abbrev zxz:= @List.pairwise_append
abbrev zxA:= @List.set_append_left
abbrev zxB:= @Bool.true_and
abbrev zxC:= @Bool.eq_iff_iff
abbrev zxD:= @Int.toNat_of_nonneg
abbrev zxE:= @List.find?_cons
abbrev zxF:= @List.replicate_succ
abbrev zxG:= @Array.foldl_toList
abbrev zxH:= @Int.add_zero
abbrev zxI:= @Int.lt_tmod_of_pos
abbrev zxJ:= @Int.natCast_nonneg
abbrev zxK:= @Int.tmod_lt_of_pos
abbrev zxL:= @List.sum_singleton
abbrev zxM:= @Nat.add_sub_cancel
abbrev zxN:= @Option.isSome_none
abbrev zxO:= @Bool.eq_false_iff
abbrev zxP:= @Int.toNat_natCast
abbrev zxQ:= @List.length_range
abbrev zxR:= @Int.add_assoc
abbrev zxS:= @Nat.mul_one
abbrev zxT:= @Array.toList_map
abbrev zxU:= @Bool.not_eq_true
abbrev zxV:= @List.drop_length
abbrev zxW:= @List.flatMap_nil
abbrev zxX:= @Nat.log2_self_le
abbrev zxY:= @Nat.lt_log2_self
abbrev zxZ:= @Nat.mod_eq_of_lt
abbrev zx0:= @List.range_succ
abbrev zx1:= @Nat.add_comm
abbrev zx2:= @Nat.succ_pos
abbrev zx3:= @Prod.ext
theorem pe{a:Prop}:a=a:=propext ⟨fun h=>h,fun h=>h⟩
inductive SV where
 |bool (b:Bool)
 |int (k:IntKind) (n:Int)
 |flt (k:FloatKind) (b:Nat)
 |cpl (k:FloatKind) (re im:Nat)
 |str (s:ByteArray)
 |nilp
 |ptr (i o:Nat)
 |nils
 |sl (i p o n:Nat)
 |sl0 (i p o:Nat)
 |nilm
 |mp (i:Nat)
 |nilf
 |fn (f:Nat)
 |cl (i:Nat)
 |nili
 |iv (i:Nat)
inductive FV where
 |s (v:SV)
 |agg (l:List SV)
 |tup (l:List FV)
inductive LO where
 |own (t:Nat) (vs:List SV)
 |ro (t:Nat) (vs:List SV)
 |dead
 |clo (f:Nat) (first caps:List FV)
 |ifc (t:Nat) (v:FV)
 |map (es:List (SV×SV))
 |iter (s:ByteArray) (pos:Nat)
abbrev LH:=List LO
inductive OD where
 |t (n:Nat)
 |c (v:FV)
inductive EO where
 |mov (x:OD)
 |nilc (x:OD)
 |nilf (x:OD)
 |pick (c a b:OD)
 |load (agg:Bool) (n:Nat) (a:OD)
 |store (n:Nat) (a x:OD)
 |new (t n:Nat) (x:OD)
 |build (zero:List SV) (parts:List (Nat×Nat×OD))
 |bsl (t:Nat) (n:Nat) (zero:List SV) (parts:List (Nat×Nat×OD))
 |bin (op:BinOp) (x y:OD)
 |eqb (neq:Bool) (x y:OD)
 |eqp (neq:Bool) (x y:OD)
 |eqn (neq:Bool) (x y:OD)
 |eqs (neq:Bool) (offs:List (Nat×Nat)) (x y:OD)
 |un (op:UnOp) (x:OD)
 |toi (k:IntKind) (x:OD)
 |itof (k:FloatKind) (x:OD)
 |ftoi (k:IntKind) (x:OD)
 |b2s (t:Nat) (x:OD)
 |mkf (f:Nat) (first caps:List OD)
 |mki (t:Nat) (x:OD)
 |mks (t y:Nat) (zero:List SV) (l:OD)
 |sli (t z:Nat) (x:OD) (lo hi:Option OD)
 |sli0 (x:OD)
 |subs (x:OD) (lo hi:Option OD)
 |fad (off:Nat) (x:OD)
 |fld (agg:Bool) (off n:Nat) (x:OD)
 |iad (t z:Nat) (x i:OD)
 |idx (x i:OD)
 |ext (x:OD) (i:Nat)
 |call (f:Nat) (args:List OD)
 |callv (x:OD) (args:List OD)
 |len (x:OD)
 |slen (x:OD)
 |app (t z y:Nat) (x y':OD)
 |apps (t y:Nat) (x s:OD)
 |appz (t y:Nat) (zero:List SV) (x n:OD)
 |copy (t z:Nat) (x y:OD)
 |clr (t:Nat) (zero:List SV) (x:OD)
 |mn (x:OD) (l:List OD)
 |mx (x:OD) (l:List OD)
 |re (x:OD)
 |im (x:OD)
 |cplx (x y:OD)
 |rng (x:OD)
 |nxt (x:OD)
 |mkm
 |mput (q:Bool) (m k x:OD)
 |mget (q ok:Bool) (zero:SV) (m k:OD)
 |mlen (x:OD)
 |s2b (t:Nat) (x:OD)
 |cut (t z:Nat) (x k:OD)
 |iaa (n z:Nat) (x i:OD)
structure EG where
 dst:Option Nat
 op:EO
 guard:Option (Nat×Bool)
inductive EC where
 |skip
 |ops (l:List EG) (keep:List Nat)
 |draw (l:List EG) (pairs:List (Nat×Nat)) (keep:List Nat)
 |seq (a b:EC)
 |cond (c:OD) (a b:EC)
 |block (id:Nat) (b:EC)
 |loop (keep:List Nat) (b:EC)
 |exit (id:Nat) (keep:List Nat)
 |ret (keep:List Nat)
 |scope (b:EC)
 |ext (n m:Nat) (g:List FV→LH→Option (List FV×LH))
 |label (l:Nat)
 |goto (l:Nat) (keep:List Nat)
inductive ER where
 |tmp (t:Nat)
 |cell (t:Nat) (agg:Bool) (n:Nat)
structure EF where
 slots:Nat
 body:EC
 res:List ER
abbrev Fr:=List (Nat×Option FV)
def yq:Fr→Nat→Option FV
 |[],_=>none
 |(m,v)::r,n=>if n=m then v else yq r n
def qx(fr:Fr)(d:Option Nat)(v:Option FV):Fr:=
 match d with
 |some n=>(n,v)::fr
 |none=>fr
def zl(keep:List Nat)(fr:Fr):Fr:=keep.map fun n=>(n,yq fr n)
def odE(fr:Fr):OD→Option FV
 | .t n=>yq fr n
 | .c v=>some v
def odS(fr:Fr)(x:OD):Option SV:=
 match odE fr x with
 |some (.s v)=>some v
 |_=>none
def odL(fr:Fr):List OD→Option (List FV)
 |[]=>some []
 |x::r=>
  match odE fr x with
  |some v=>(odL fr r).map (v:: ·)
  |none=>none
def jI:FV→Option (List SV)
 | .s v=>some [v]
 | .agg l=>some l
 | .tup _=>none
def Yg:List FV→Bool
 |[]=>true
 | .tup _::_=>false
 | .s _::r=>Yg r
 | .agg _::r=>Yg r
def cellsOf(h:LH)(i:Nat):Option (Nat×List SV):=
 match h[i]? with
 |some (.own t vs)=>some (t,vs)
 |some (.ro t vs)=>some (t,vs)
 |_=>none
def qr:List SV→Nat→List SV→List SV
 |vs,_,[]=>vs
 |vs,o,c::r=>qr (vs.set o c) (o+1) r
def ZK(fr:Fr):List SV→List (Nat×Nat×OD)→Option (List SV)
 |cs,[]=>some cs
 |cs,(o,n,x)::r=>
  match(odE fr x).bind jI with
  |some l=>if l.length=n then if o+n≤cs.length then ZK fr (qr cs o l) r else none else none
  |none=>none
def zdA(op:BinOp)(k:IntKind)(a b:Int):Option SV:=
 match op with
 | .add=>some (.int k (k.wrap (a+b)))
 | .sub=>some (.int k (k.wrap (a-b)))
 | .mul=>some (.int k (k.wrap (a*b)))
 | .quo=>if b=0 then none else some (.int k (k.wrap (a.tdiv b)))
 | .rem=>if b=0 then none else some (.int k (a.tmod b))
 | .eql=>some (.bool (a==b))
 | .neq=>some (.bool (a !=b))
 | .lss=>some (.bool (a<b))
 | .leq=>some (.bool (a≤b))
 | .gtr=>some (.bool (a >b))
 | .geq=>some (.bool (a≥b))
 | .and=>some (.int k (k.wrap (BitVec.ofInt k.bits a&&&BitVec.ofInt k.bits b).toNat))
 | .or=>some (.int k (k.wrap (BitVec.ofInt k.bits a|||BitVec.ofInt k.bits b).toNat))
 | .xor=>some (.int k (k.wrap (BitVec.ofInt k.bits a^^^BitVec.ofInt k.bits b).toNat))
 |_=>none
def zej(op:BinOp)(a b:ByteArray):Option SV:=
 match op with
 | .add=>if((a.size+b.size:Nat):Int)≤9223372036854775807 then some (.str (a++b)) else none
 | .eql=>some (.bool (a.toList==b.toList))
 | .neq=>some (.bool (!(a.toList==b.toList)))
 | .lss=>some (.bool (Op.bytesLess a.toList b.toList))
 | .leq=>some (.bool (Op.bytesLess a.toList b.toList||a.toList==b.toList))
 | .gtr=>some (.bool (!(Op.bytesLess a.toList b.toList||a.toList==b.toList)))
 | .geq=>some (.bool (!(Op.bytesLess a.toList b.toList)))
 |_=>none
def zb7(op:BinOp)(a b c d:Nat):Option SV:=
 match op with
 | .add=>match FloatKind.f64.format.add a c,FloatKind.f64.format.add b d with
   |some x,some y=>some (.cpl .f64 x y)
   |_,_=>none
 | .eql=>some (.bool (FloatKind.f64.format.order a c==some .eq&&FloatKind.f64.format.order b d==some .eq))
 | .neq=>some (.bool (!(FloatKind.f64.format.order a c==some .eq&&FloatKind.f64.format.order b d==some .eq)))
 |_=>none
def zb9(op:BinOp)(a b:Nat):Option SV:=
 match op with
 | .eql=>some (.bool (FloatKind.f64.format.order a b==some .eq))
 | .neq=>some (.bool (FloatKind.f64.format.order a b !=some .eq))
 |_=>none
def zjX(op:BinOp)(k:IntKind)(a b:Int):Option SV:=
 if b<0 then none else
 match op with
 | .shl=>some (.int k (k.wrap (a*2^min b.toNat k.bits)))
 | .shr=>some (.int k (a.fdiv (2^min b.toNat k.bits)))
 |_=>none
def zcW(op:BinOp)(x y:SV):Option SV:=
 match x,y with
 | .int k a,.int k' b=>
   if op= .shl∨op= .shr then zjX op k a b else if k=k' then zdA op k a b else none
 | .str a,.str b=>zej op a b
 | .cpl .f64 a b,.cpl .f64 c d=>zb7 op a b c d
 | .flt .f64 a,.flt .f64 b=>zb9 op a b
 |_,_=>none
def zet:SV→SV→Option Bool
 | .nilp,.nilp=>some true
 | .nilp,.ptr _ _=>some false
 | .ptr _ _,.nilp=>some false
 |_,_=>none
def zjc:SV→SV→Option Bool
 | .nils,.nils=>some true
 | .nils,.sl _ _ _ _=>some false
 | .sl _ _ _ _,.nils=>some false
 | .nils,.sl0 _ _ _=>some false
 | .sl0 _ _ _,.nils=>some false
 |_,_=>none
def Y9(neq b:Bool):FV:= .s (.bool (if neq then !b else b))
def YV:Nat→SV→SV→Option Bool
 |0,.int k a,.int k' b=>if k=k' then some (a==b) else none
 |1,.bool a,.bool b=>some (a==b)
 |2,.str a,.str b=>some (a==b)
 |_,_,_=>none
def jV(xs ys:List SV):List (Nat×Nat)→Option Bool
 |[]=>some true
 |(o,q)::r=>
  match xs[o]?,ys[o]? with
  |some x,some y=>
   match YV q x y with
   |some true=>jV xs ys r
   |some false=>some false
   |none=>none
  |_,_=>none
def unE(op:UnOp)(x:SV):Option SV:=
 match op,x with
 | .neg,.int k n=>some (.int k (k.wrap (0-n)))
 | .not,.bool b=>some (.bool !b)
 |_,_=>none
def zbE:SV→Option Nat
 | .nils=>some 0
 | .sl _ _ _ n=>some n
 | .sl0 _ _ _=>some 0
 |_=>none
def j6(h:LH)(t z:Nat):SV→Option (List SV)
 | .nils=>some []
 | .sl0 _ _ _=>some []
 | .sl _ _ _ 0=>some []
 | .sl i _ o n=>
   match cellsOf h i with
   |some (t',vs)=>if t'=t then if(o+n)*z≤vs.length then some ((vs.drop (o*z)).take (n*z)) else none else none
   |none=>none
 |_=>none
def yP(s:ByteArray):List SV:=s.data.toList.map fun b=>SV.int .u8 b.toNat
def ZF(h:LH)(t z y:Nat)(x:SV)(n:Nat)(new:List SV):Option (FV×LH):=
 if n=0 then
  match x with
  | .nils=>some (.s .nils,h)
  | .sl i p o m=>some (.s (.sl i p o m),h)
  | .sl0 i p o=>some (.s (.sl0 i p o),h)
  |_=>none
 else
  match x with
  | .nils| .sl0 _ _ _=>if n*y≤140737488355328 then some (.s (.sl h.length 0 0 n),h++[.own t new]) else none
  | .sl i _ o m=>
    match h[i]? with
    |some (.own t' vs)=>
     if t'=t then if(o+m)*z≤vs.length then if(m+n)*y≤140737488355328 then
      some (.s (.sl h.length 0 0 (m+n)),h.set i .dead++[.own t ((vs.drop (o*z)).take (m*z)++new)])
     else none else none else none
    |_=>none
  |_=>none
def zfS(h:LH)(t z:Nat)(x:SV)(m:Nat):Option (FV×LH):=
 if m=0 then
  match x with
  | .nils=>some (.s .nils,h)
  | .sl i p o _=>some (.s (.sl0 i p o),h)
  | .sl0 i p o=>some (.s (.sl0 i p o),h)
  |_=>none
 else
  match x with
  | .sl i _ o n=>
    match h[i]? with
    |some (.own t' vs)=>if t'=t then if m≤n then if(o+n)*z≤vs.length then some (.s (.sl h.length 0 0 m),h.set i .dead++[.own t ((vs.drop (o*z)).take (m*z))]) else none else none else none
    |_=>none
  |_=>none
def rep(n:Nat)(zero:List SV):List SV:=(List.replicate n zero).flatten
def zbJ(k:IntKind)(a:Int):List SV→Option SV
 |[]=>some (.int k a)
 | .int _ b::r=>zbJ k (if b<a then b else a) r
 |_=>none
def zbH(k:IntKind)(a:Int):List SV→Option SV
 |[]=>some (.int k a)
 | .int _ b::r=>zbH k (if b >a then b else a) r
 |_=>none
def zcq(fr:Fr):List OD→Option (List SV)
 |[]=>some []
 |x::r=>
  match odS fr x with
  |some v=>(zcq fr r).map (v:: ·)
  |none=>none
def YT:List SV→Option (List UInt8)
 |[]=>some []
 | .int .u8 n::r=>(YT r).map (UInt8.ofNat n.toNat:: ·)
 |_=>none
def bound(fr:Fr)(d:Nat):Option OD→Option Nat
 |none=>some d
 |some x=>
  match odS fr x with
  |some (.int _ n)=>if 0≤n then some n.toNat else none
  |_=>none
def nlS:SV→Bool
 | .ptr _ _| .sl _ _ _ _| .sl0 _ _ _| .mp _| .cl _| .iv _=>false
 |_=>true
def zcd:SV→SV→Option Bool
 | .str a,.str b=>some (a==b)
 | .int k a,.int k' b=>if k=k' then some (a==b) else none
 |_,_=>none
def getM(k:SV):List (SV×SV)→Option (Option SV)
 |[]=>some none
 |e::r=>
  match zcd k e.1 with
  |some true=>some (some e.2)
  |some false=>getM k r
  |none=>none
def zgD(k v:SV):List (SV×SV)→Option (List (SV×SV))
 |[]=>some [(k,v)]
 |e::r=>
  match zcd k e.1 with
  |some true=>some ((k,v)::r)
  |some false=>(zgD k v r).map (e:: ·)
  |none=>none
def Jr(q:Bool):SV→Bool
 | .str _=>q
 | .int _ _=> !q
 |_=>false
def opE(fr:Fr)(h:LH):EO→Option (FV×LH)
 | .mov x=>(odE fr x).map (·,h)
 | .nilc x=>
   match odS fr x with
   |some (.ptr i o)=>some (.s (.ptr i o),h)
   |_=>none
 | .nilf x=>
   match odS fr x with
   |some (.cl i)=>
    match h[i]? with
    |some (.clo _ _ _)=>some (.s (.cl i),h)
    |_=>none
   |some (.fn f)=>some (.s (.fn f),h)
   |_=>none
 | .pick c a b=>
   match odS fr c,odE fr a,odE fr b with
   |some (.bool t),some x,some y=>some (if t then x else y,h)
   |_,_,_=>none
 | .load agg n a=>
   match odS fr a with
   |some (.ptr i o)=>
    match cellsOf h i with
    |some (_,vs)=>
     if agg then if o+n≤vs.length then some (.agg ((vs.drop o).take n),h) else none
     else match vs[o]? with
      |some v=>some (.s v,h)
      |none=>none
    |none=>none
   |_=>none
 | .store n a x=>
   match odS fr a,(odE fr x).bind jI with
   |some (.ptr i o),some l=>
    match h[i]? with
    |some (.own t vs)=>if l.length=n then if o+n≤vs.length then some (.tup [],h.set i (.own t (qr vs o l))) else none else none
    |_=>none
   |_,_=>none
 | .new t n x=>
   match(odE fr x).bind jI with
   |some l=>if l.length=n then some (.s (.ptr h.length 0),h++[.own t l]) else none
   |none=>none
 | .build zero parts=>(ZK fr zero parts).map (.agg ·,h)
 | .bsl t n zero parts=>(ZK fr (rep n zero) parts).map fun l=>(.s (.sl h.length 0 0 n),h++[.own t l])
 | .bin op x y=>
   match odS fr x,odS fr y with
   |some a,some b=>(zcW op a b).map (.s ·,h)
   |_,_=>none
 | .eqb neq x y=>
   match odS fr x,odS fr y with
   |some (.bool a),some (.bool b)=>some (Y9 neq (a==b),h)
   |_,_=>none
 | .eqp neq x y=>
   match odS fr x,odS fr y with
   |some a,some b=>(zet a b).map fun t=>(Y9 neq t,h)
   |_,_=>none
 | .eqn neq x y=>
   match odS fr x,odS fr y with
   |some a,some b=>(zjc a b).map fun t=>(Y9 neq t,h)
   |_,_=>none
 | .eqs neq offs x y=>
   match odE fr x,odE fr y with
   |some (.agg xs),some (.agg ys)=>(jV xs ys offs).map fun b=>(Y9 neq b,h)
   |_,_=>none
 | .un op x=>
   match odS fr x with
   |some a=>(unE op a).map (.s ·,h)
   |none=>none
 | .toi k x=>
   match odS fr x with
   |some (.int _ n)=>some (.s (.int k (k.wrap n)),h)
   |_=>none
 | .itof k x=>
   match odS fr x with
   |some (.int _ n)=>some (.s (.flt k (k.nearest n)),h)
   |_=>none
 | .ftoi k x=>
   match odS fr x with
   |some (.flt s b)=>
    match(s.decode b).toInt .zero with
    |some n=>if k.min≤n∧n≤k.max then some (.s (.int k n),h) else none
    |none=>none
   |_=>none
 | .b2s t x=>
   match odS fr x with
   |some v=>
    match(j6 h t 1 v).bind YT with
    |some l=>some (.s (.str ⟨l.toArray⟩),h)
    |none=>none
   |none=>none
 | .mkf f first caps=>
   match odL fr first,odL fr caps with
   |some a,some b=>if Yg a&&Yg b then some (.s (.cl h.length),h++[.clo f a b]) else none
   |_,_=>none
 | .mki t x=>
   match odE fr x with
   |some v=>if Yg [v] then some (.s (.iv h.length),h++[.ifc t v]) else none
   |none=>none
 | .mks t y zero l=>
   match odS fr l with
   |some (.int .i64 n)=>if 0≤n then if n.toNat*y≤140737488355328 then some (.s (.sl h.length 0 0 n.toNat),h++[.own t (rep n.toNat zero)]) else none else none
   |_=>none
 | .sli t _ x lo hi=>
   match odS fr x with
   |some .nils=>
    match bound fr 0 lo,bound fr 0 hi with
    |some 0,some 0=>some (.s .nils,h)
    |_,_=>none
   |some (.sl i p o n)=>
    match bound fr 0 lo,bound fr n hi,cellsOf h i with
    |some l,some u,some (t',_)=>if t'=t then if l≤u then if u≤n then some (.s (.sl i (if l=0 then p else o) (o+l) (u-l)),h) else none else none else none
    |_,_,_=>none
   |_=>none
 | .subs x lo hi=>
   match odS fr x with
   |some (.str s)=>
    match bound fr 0 lo,bound fr s.size hi with
    |some l,some u=>if l≤u then if u≤s.size then some (.s (.str (s.extract l u)),h) else none else none
    |_,_=>none
   |_=>none
 | .sli0 x=>
   match odS fr x with
   |some .nils=>some (.s .nils,h)
   |some (.sl i p o _)=>some (.s (.sl0 i p o),h)
   |some (.sl0 i p o)=>some (.s (.sl0 i p o),h)
   |_=>none
 | .fad off x=>
   match odS fr x with
   |some (.ptr i o)=>some (.s (.ptr i (o+off)),h)
   |_=>none
 | .fld agg off n x=>
   match odE fr x with
   |some (.agg l)=>
    if agg then if off+n≤l.length then some (.agg ((l.drop off).take n),h) else none
    else match l[off]? with
     |some v=>some (.s v,h)
     |none=>none
   |_=>none
 | .iad t z x i=>
   match odS fr x,odS fr i with
   |some (.sl j _ o n),some (.int _ k)=>
    match cellsOf h j with
    |some (t',_)=>if t'=t then if 0≤k then if k<n then some (.s (.ptr j ((o+k.toNat)*z)),h) else none else none else none
    |none=>none
   |_,_=>none
 | .idx x i=>
   match odS fr x,odS fr i with
   |some (.str s),some (.int _ k)=>
    if 0≤k then match s.data.toList[k.toNat]? with
     |some b=>some (.s (.int .u8 b.toNat),h)
     |none=>none
    else none
   |_,_=>none
 | .ext x i=>
   match odE fr x with
   |some (.tup l)=>
    match l[i]? with
    |some v=>some (v,h)
    |none=>none
   |_=>none
 | .len x=>
   match odS fr x with
   |some v=>(zbE v).map fun(n:Nat)=>(FV.s (.int .i64 (n:Int)),h)
   |none=>none
 | .slen x=>
   match odS fr x with
   |some (.str s)=>some (.s (.int .i64 s.size),h)
   |_=>none
 | .app t z y x y'=>
   match odS fr x,odS fr y' with
   |some v,some u=>
    match zbE u,j6 h t z u with
    |some n,some new=>ZF h t z y v n new
    |_,_=>none
   |_,_=>none
 | .apps t y x s=>
   match odS fr x,odS fr s with
   |some v,some (.str b)=>ZF h t 1 y v b.size (yP b)
   |_,_=>none
 | .appz t y zero x n=>
   match odS fr x,odS fr n with
   |some v,some (.int .i64 m)=>if 0≤m then ZF h t zero.length y v m.toNat (rep m.toNat zero) else none
   |_,_=>none
 | .copy t z x y=>
   match odS fr x,odS fr y with
   |some (.sl i _ o m),some u=>
    match h[i]?,zbE u,j6 h t z u with
    |some (.own t' vs),some n,some new=>
     if t'=t then if(o+m)*z≤vs.length then some (.s (.int .i64 (min n m:Nat)),h.set i (.own t' (qr vs (o*z) (new.take (min n m*z))))) else none else none
    |_,_,_=>none
   |_,_=>none
 | .clr t zero x=>
   match odS fr x with
   |some .nils=>some (.tup [],h)
   |some (.sl _ _ _ 0)=>some (.tup [],h)
   |some (.sl i _ o n)=>
    match h[i]? with
    |some (.own t' vs)=>if t'=t then if(o+n)*zero.length≤vs.length then some (.tup [],h.set i (.own t' (qr vs (o*zero.length) (rep n zero)))) else none else none
    |_=>none
   |_=>none
 | .mn x l=>
   match odS fr x,zcq fr l with
   |some (.int k a),some vs=>(zbJ k a vs).map (.s ·,h)
   |_,_=>none
 | .mx x l=>
   match odS fr x,zcq fr l with
   |some (.int k a),some vs=>(zbH k a vs).map (.s ·,h)
   |_,_=>none
 | .re x=>
   match odS fr x with
   |some (.cpl k a _)=>some (.s (.flt k a),h)
   |_=>none
 | .im x=>
   match odS fr x with
   |some (.cpl k _ b)=>some (.s (.flt k b),h)
   |_=>none
 | .cplx x y=>
   match odS fr x,odS fr y with
   |some (.flt .f64 a),some (.flt .f64 b)=>some (.s (.cpl .f64 a b),h)
   |_,_=>none
 | .rng x=>
   match odS fr x with
   |some (.str s)=>some (.s (.ptr h.length 0),h++[.iter s 0])
   |_=>none
 | .nxt x=>
   match odS fr x with
   |some (.ptr i 0)=>
    match h[i]? with
    |some (.iter s pos)=>
     match s.data.toList[pos]? with
     |some b=>if b.toNat<128 then some (.tup [.s (.bool true),.s (.int .i64 pos),.s (.int .i32 b.toNat)],h.set i (.iter s (pos+1))) else none
     |none=>some (.tup [.s (.bool false)],h)
    |_=>none
   |_=>none
 | .mkm=>some (.s (.mp h.length),h++[.map []])
 | .mput q m k x=>
   match odS fr m,odS fr k,odS fr x with
   |some (.mp i),some a,some v=>
    match h[i]? with
    |some (.map es)=>if Jr q a&&nlS v then(zgD a v es).map fun es'=>(.tup [],h.set i (.map es')) else none
    |_=>none
   |_,_,_=>none
 | .mget q ok zero m k=>
   match odS fr m,odS fr k with
   |some (.mp i),some a=>
    match h[i]? with
    |some (.map es)=>
     if Jr q a then
      match getM a es with
      |some r=>some (if ok then .tup [.s (r.getD zero),.s (.bool r.isSome)] else .s (r.getD zero),h)
      |none=>none
     else none
    |_=>none
   |_,_=>none
 | .mlen x=>
   match odS fr x with
   |some (.mp i)=>
    match h[i]? with
    |some (.map es)=>some (.s (.int .i64 es.length),h)
    |_=>none
   |_=>none
 | .s2b t x=>
   match odS fr x with
   |some (.str s)=>some (.s (.sl h.length 0 0 s.size),h++[.own t (yP s)])
   |_=>none
 | .cut t z x k=>
   match odS fr x,odS fr k with
   |some v,some (.int _ m)=>if 0≤m then zfS h t z v m.toNat else none
   |_,_=>none
 | .iaa n z x i=>
   match odS fr x,odS fr i with
   |some (.ptr j o),some (.int _ k)=>if 0≤k then if k<(n:Int) then some (.s (.ptr j (o+k.toNat*z)),h) else none else none
   |_,_=>none
 | .call _ _=>none
 | .callv _ _=>none
def jU(fr:Fr)(h:LH):EO→Option (Nat×List FV)
 | .call f args=>(odL fr args).map (f,·)
 | .callv x args=>
   match odS fr x,odL fr args with
   |some (.fn f),some l=>some (f,l)
   |some (.cl i),some l=>
    match h[i]? with
    |some (.clo f first caps)=>some (f,first++l++caps)
    |_=>none
   |_,_=>none
 |_=>none
def jA:EO→Bool
 | .call _ _=>true
 | .callv _ _=>true
 |_=>false
abbrev zU:=Nat→List FV→LH→Option (FV×LH)
def zK(call:zU)(fr:Fr)(h:LH)(o:EO):Option (FV×LH):=
 if jA o then match jU fr h o with
  |some (f,args)=>call f args h
  |none=>none
 else opE fr h o
def jt(fr:Fr):Option (Nat×Bool)→Option Bool
 |none=>some true
 |some (s,b)=>
  match yq fr s with
  |some (.s (.bool t))=>some (t==b)
  |some (.tup [])=>some false
  |_=>none
def jY(call:zU):List EG→Fr→LH→Option (Fr×LH)
 |[],fr,h=>some (fr,h)
 |g::r,fr,h=>
  match jt fr g.guard with
  |some true=>
   match zK call fr h g.op with
   |some (v,h')=>jY call r (qx fr g.dst (some v)) h'
   |none=>none
  |some false=>jY call r (qx fr g.dst (some (.tup []))) h
  |none=>none
structure TE where
 fr:Fr
 h:LH
 op:EO
 v:FV
 h':LH
def odT:OD→List Nat
 | .t n=>[n]
 | .c _=>[]
def zaZ:List OD→List Nat
 |[]=>[]
 |x::r=>odT x++zaZ r
def zh4:Option OD→List Nat
 |none=>[]
 |some x=>odT x
def Qf:List (Nat×Nat×OD)→List Nat
 |[]=>[]
 |p::r=>odT p.2.2++Qf r
def zQ:EO→List Nat
 | .mov x| .nilc x| .nilf x| .un _ x| .toi _ x| .itof _ x| .ftoi _ x| .b2s _ x| .mki _ x| .sli0 x| .fad _ x| .fld _ _ _ x| .ext x _| .len x| .slen x| .clr _ _ x| .re x| .im x=>odT x
 | .load _ _ x=>odT x
 | .new _ _ x=>odT x
 | .mks _ _ _ x=>odT x
 | .pick c a b=>odT c++odT a++odT b
 | .store _ a x=>odT a++odT x
 | .build _ ps=>Qf ps
 | .bsl _ _ _ ps=>Qf ps
 | .bin _ x y| .eqb _ x y| .eqp _ x y| .eqn _ x y| .eqs _ _ x y| .cplx x y=>odT x++odT y
 | .mkf _ a b=>zaZ a++zaZ b
 | .sli _ _ x a b=>odT x++zh4 a++zh4 b
 | .subs x a b=>odT x++zh4 a++zh4 b
 | .iad _ _ x i=>odT x++odT i
 | .idx x i=>odT x++odT i
 | .call _ l=>zaZ l
 | .callv x l=>odT x++zaZ l
 | .app _ _ _ x y=>odT x++odT y
 | .apps _ _ x y=>odT x++odT y
 | .appz _ _ _ x y=>odT x++odT y
 | .copy _ _ x y=>odT x++odT y
 | .mn x l| .mx x l=>odT x++zaZ l
 | .rng x| .nxt x| .mlen x| .s2b _ x=>odT x
 | .mkm=>[]
 | .mput _ m k x=>odT m++odT k++odT x
 | .mget _ _ _ m k=>odT m++odT k
 | .cut _ _ x k=>odT x++odT k
 | .iaa _ _ x i=>odT x++odT i
def zI(g:EG):List Nat:=
 match g.guard with
 |none=>zQ g.op
 |some (s,_)=>s::zQ g.op
def je(call:zU):List EG→Fr→LH→Option (List (Option TE)×Fr×LH)
 |[],fr,h=>some ([],fr,h)
 |g::r,fr,h=>
  match jt (zl (zI g) fr) g.guard with
  |some true=>
   match zK call (zl (zI g) fr) h g.op with
   |some (v,h')=>(je call r (qx fr g.dst (some v)) h').map fun x=>(some ⟨zl (zI g) fr,h,g.op,v,h'⟩::x.1,x.2)
   |none=>none
  |some false=>(je call r (qx fr g.dst (some (.tup []))) h).map fun x=>(none::x.1,x.2)
  |none=>none
def Yw:EO→Bool
 | .mov _| .nilc _| .pick _ _ _| .build _ _| .bin _ _ _| .eqb _ _ _| .eqp _ _ _| .eqn _ _ _| .eqs _ _ _ _| .un _ _| .toi _ _| .itof _ _| .ftoi _ _| .fad _ _| .fld _ _ _ _| .idx _ _| .ext _ _
 | .len _| .slen _| .mn _ _| .mx _ _| .re _| .im _| .cplx _ _| .sli0 _| .subs _ _ _| .iaa _ _ _ _=>false
 |_=>true
def yt:EO→Bool
 | .store _ _ _| .new _ _ _| .bsl _ _ _ _| .mkf _ _ _| .mki _ _| .mks _ _ _ _| .call _ _| .callv _ _| .app _ _ _ _ _| .apps _ _ _ _| .appz _ _ _ _ _| .copy _ _ _ _| .clr _ _ _| .rng _| .nxt _| .mkm| .mput _ _ _ _| .s2b _ _| .cut _ _ _ _=>true
 |_=>false
def nmS(S:Nat→Prop):SV→Prop
 | .ptr i _=>S i
 | .sl i _ _ _=>S i
 | .sl0 i _ _=>S i
 | .mp i=>S i
 | .cl i=>S i
 | .iv i=>S i
 |_=>True
def nmL(S:Nat→Prop):List SV→Prop
 |[]=>True
 |v::r=>nmS S v∧nmL S r
mutual
def nmV(S:Nat→Prop):FV→Prop
 | .s v=>nmS S v
 | .agg l=>nmL S l
 | .tup l=>zev S l
def zev(S:Nat→Prop):List FV→Prop
 |[]=>True
 |v::r=>nmV S v∧zev S r
end
def zdx(n:Nat):Fr→Prop
 |[]=>True
 |(_,some v)::r=>nmV (·<n) v∧zdx n r
 |(_,none)::r=>zdx n r
def rdO(fr:Fr):EO→Option Nat
 | .load _ _ a=>match odS fr a with
   |some (.ptr i _)=>some i
   |_=>none
 | .nilf x=>match odS fr x with
   |some (.cl i)=>some i
   |_=>none
 | .b2s _ x=>match odS fr x with
   |some (.sl i _ _ _)=>some i
   |_=>none
 | .sli _ _ x _ _=>match odS fr x with
   |some (.sl i _ _ _)=>some i
   |_=>none
 | .iad _ _ x _=>match odS fr x with
   |some (.sl i _ _ _)=>some i
   |_=>none
 | .mget _ _ _ x _=>match odS fr x with
   |some (.mp i)=>some i
   |_=>none
 | .mlen x=>match odS fr x with
   |some (.mp i)=>some i
   |_=>none
 |_=>none
def zig(n:Nat)(fr:Fr)(op:EO):Prop:=match rdO fr op with
 |some p=>n≤p
 |none=>False
def qb(call:zU)(tr:List (Option TE))(p:Nat×Nat):Prop:=
 match tr[p.1]?,tr[p.2]? with
 |some (some a),some (some b)=>b.h'=b.h∨(zK call a.fr b.h a.op=some (a.v,b.h)∧zK call a.fr b.h' a.op=some (a.v,b.h')∧(yt a.op=true→a.h'=a.h∧zdx b.h.length a.fr))∨(yt a.op=false∧zig b.h'.length a.fr a.op)
 |some _,some _=>True
 |_,_=>False
def yg(call:zU)(tr:List (Option TE)):List (Nat×Nat)→Prop
 |[]=>True
 |p::r=>qb call tr p∧yg call tr r
open Classical in
noncomputable def Zs(call:zU)(l:List EG)(pairs:List (Nat×Nat))(fr:Fr)(h:LH):Option (Fr×LH):=
 match je call l fr h with
 |some (tr,fr',h')=>if yg call tr pairs then some (fr',h') else none
 |none=>none
inductive Ex where
 |normal
 |exit (id:Nat)
 |goto (l:Nat)
 |ret
abbrev Out:=Option (Ex×Fr×LH)
def j7(body:Fr→LH→Out)(keep:List Nat):Nat→Fr→LH→Out
 |0,_,_=>none
 |n+1,fr,h=>
  match body (zl keep fr) h with
  |some (.normal,fr',h')=>j7 body keep n fr' h'
  |r=>r
def Yt:EC→Nat→Bool
 | .seq a b,l=>Yt a l||Yt b l
 | .label l',l=>l'==l
 |_,_=>false
def ye(at':Nat→Fr→LH→Out)(has:Nat→Bool):Nat→Out→Out
 |n,r=>
  match r with
  |some (.goto l,fr,h)=>if has l then match n with
   |0=>none
   |n+1=>ye at' has n (at' l fr h) else some (.goto l,fr,h)
  |r=>r
def jj:Nat→List FV→Fr
 |_,[]=>[]
 |n,v::r=>(n,some v)::jj (n+1) r
def JL(fr:Fr):Nat→Nat→Option (List FV)
 |_,0=>some []
 |i,k+1=>
  match yq fr i with
  |some v=>(JL fr (i+1) k).map (v:: ·)
  |none=>none
def zlF(n m:Nat)(g:List FV→LH→Option (List FV×LH))(fr:Fr)(h:LH):Out:=
 match(JL fr 0 n).bind fun args=>g args h with
 |some (vs,h')=>if vs.length=m then if h.length≤h'.length then some (.normal,jj n vs,h') else none else none
 |none=>none
mutual
noncomputable def zp(call:zU)(n:Nat):EC→Fr→LH→Out
 | .skip,fr,h=>some (.normal,fr,h)
 | .label _,fr,h=>some (.normal,fr,h)
 | .ops l keep,fr,h=>(jY call l fr h).map fun x=>(.normal,zl keep x.1,x.2)
 | .draw l ps keep,fr,h=>(Zs call l ps fr h).map fun x=>(.normal,zl keep x.1,x.2)
 | .seq a b,fr,h=>
   match zp call n a fr h with
   |some (.normal,fr',h')=>zp call n b fr' h'
   |r=>r
 | .cond c a b,fr,h=>
   match odS fr c with
   |some (.bool t)=>if t then zp call n a fr h else zp call n b fr h
   |_=>none
 | .block id b,fr,h=>
   match zp call n b fr h with
   |some (.exit id',fr',h')=>if id'=id then some (.normal,fr',h') else some (.exit id',fr',h')
   |r=>r
 | .loop keep b,fr,h=>j7 (zp call n b) keep n fr h
 | .exit id keep,fr,h=>some (.exit id,zl keep fr,h)
 | .ret keep,fr,h=>some (.ret,zl keep fr,h)
 | .goto l keep,fr,h=>some (.goto l,zl keep fr,h)
 | .scope b,fr,h=>ye (zM call n b) (Yt b) n (zp call n b fr h)
 | .ext k m g,fr,h=>zlF k m g fr h
noncomputable def zM(call:zU)(n:Nat):EC→Nat→Fr→LH→Out
 | .seq a b,l,fr,h=>
   if Yt a l then match zM call n a l fr h with
   |some (.normal,fr',h')=>zp call n b fr' h'
   |r=>r
   else zM call n b l fr h
 | .label l',l,fr,h=>if l'==l then some (.normal,fr,h) else none
 |_,_,_,_=>none
end
def zgG(fr:Fr)(h:LH):ER→Option FV
 | .tmp t=>yq fr t
 | .cell t g n=>(opE fr h (.load g n (.t t))).map (·.1)
def jO(fr:Fr)(h:LH):List ER→Option (List FV)
 |[]=>some []
 |r::l=>
  match zgG fr h r with
  |some v=>(jO fr h l).map (v:: ·)
  |none=>none
def qL:List FV→FV
 |[v]=>v
 |l=> .tup l
def qR(l:Option (List FV))(h:LH):Option (FV×LH):=
 match l with
 |some l=>if Yg l then some (qL l,h) else none
 |none=>none
noncomputable def jh(C:Nat→Option EF):Nat→zU
 |0,_,_,_=>none
 |n+1,f,args,h=>
  match C f with
  |none=>none
  |some e=>
   if args.length≤e.slots then
    match zp (jh C n) n e.body (jj 0 args) h with
    |some (.normal,fr,h')=>qR (jO fr h' e.res) h'
    |some (.ret,fr,h')=>qR (jO fr h' e.res) h'
    |_=>none
   else none
def ziO:Value→Option SV
 | .bool b=>some (.bool b)
 | .int k n=>some (.int k n)
 | .float k b=>some (.flt k b)
 | .complex k a b=>some (.cpl k a b)
 | .string s=>some (.str s)
 | .pointer none=>some .nilp
 | .slice none 0 0=>some .nils
 | .map none=>some .nilm
 | .nilFunc=>some .nilf
 | .nilIface=>some .nili
 | .func (.func f) a b=>if a.size=0 then if b.size=0 then some (.fn f) else none else none
 |_=>none
def zfD:List Value→Option (List SV)
 |[]=>some []
 |v::r=>
  match ziO v with
  |some x=>(zfD r).map (x:: ·)
  |none=>none
def zmV:Value→Option FV
 | .agg cs=>(zfD cs.toList).map .agg
 |v=>(ziO v).map .s
def zi:Operand→Option OD
 | .tmp t=>some (.t t)
 | .const v=>(zmV v).map .c
 | .func f=>some (.c (.s (.fn f)))
 | .global _=>none
def yz:List Operand→Option (List OD)
 |[]=>some []
 |x::r=>
  match zi x with
  |some y=>(yz r).map (y:: ·)
  |none=>none
def Ye:Option Operand→Option (Option OD)
 |none=>some none
 |some x=>(zi x).map some
section
variable (P:Program)
def QX(t:TypeId):Option (Bool×Nat):=
 match P.underlying t,P.info? t with
 |some (.struct _),some i=>some (true,i.size)
 |some (.array _ _),some i=>some (true,i.size)
 |some _,some i=>some (false,i.size)
 |_,_=>none
def Ya(t:TypeId):Option (List SV):=
 match P.info? t with
 |some i=>i.zero.bind fun z=>zfD z.cells.toList
 |none=>none
def Ze(t:TypeId):Option TypeId:=
 match P.underlying t with
 |some (.slice e)=>some e
 |_=>none
def QC(s:TypeId)(f:Nat):Option Field:=
 match P.underlying s with
 |some (.struct fs)=>fs[f]?
 |_=>none
def qt(place:Nat→Option (Nat×Nat)):List (Nat×Operand)→Option (List (Nat×Nat×OD))
 |[]=>some []
 |(i,x)::r=>
  match place i,zi x with
  |some (o,n),some y=>(qt place r).map ((o,n,y):: ·)
  |_,_=>none
def zd4(t:TypeId):Option (List (Nat×Nat)):=
 match P.underlying t with
 |some (.struct fields)=>fields.toList.mapM (fun f=>(P.info? f.type).map fun i=>(f.offset,i.size))
 |_=>none
def zhv(t:TypeId):Bool:=P.underlying t matches some .string
def zdN(t:TypeId):Option (Bool×TypeId):=
 match P.underlying t with
 |some (.map k e)=>
  match P.underlying k with
  |some (.int _)=>some (false,e)
  |some .string=>some (true,e)
  |_=>none
 |_=>none
def zpK(t:TypeId):Option SV:=((P.info? t).bind (·.zero)).bind ziO
def qf:List Field→Option (List (Nat×Nat))
 |[]=>some []
 |f::r=>
  if f.name = "_" then none
  else match P.underlying f.type with
   |some (.int _)=>(qf r).map ((f.offset,0):: ·)
   |some .bool=>(qf r).map ((f.offset,1):: ·)
   |some .string=>(qf r).map ((f.offset,2):: ·)
   |_=>none
def zkn(op:BinOp)(t:TypeId)(x y:OD):Option EO:=
 match op with
 | .eql| .neq=>
   let neq:=op= .neq
   match P.underlying t with
   |some .bool=>some (.eqb neq x y)
   |some (.pointer _)=>some (.eqp neq x y)
   |some (.slice _)=>some (.eqn neq x y)
   |some (.struct fs)=>
    if P.eqGuardType P.depth t then none
    else if P.stoodInHeld t then none
    else(qf P fs.toList).map fun l=> .eqs neq l x y
   |some (.int _)|some .string|some (.float _)|some (.complex _)=>some (.bin op x y)
   |_=>none
 |_=>some (.bin op x y)
def zbC:Operand→Bool
 | .const (.int _ 0)=>true
 |_=>false
def zbR:Operand→Operand→Bool
 | .tmp a,.tmp b=>a==b
 | .const (.int .i64 a),.const (.int .i64 b)=>a==b
 |_,_=>false
def zhb(f:Nat):Bool:=
 match P.funcs[f]? with
 | some fn => fn.name != "runtime.NumGoroutine" && fn.body.isSome
 |none=>false
def JS(b:Builtin)(ts:Array TypeId)(args:List OD):Option EO:=
 match b,args with
 | .len,[x]=>
   match(ts[0]?).bind P.underlying with
   |some .string=>some (.slen x)
   |some (.slice _)=>some (.len x)
   |some (.map _ _)=>some (.mlen x)
   |_=>none
 | .append,[x,y]=>
   match(ts[0]?).bind (Ze P),(ts[1]?).bind P.underlying with
   |some e,some (.slice e')=>if e'=e then(P.info? e).bind fun i=>if 0<i.size∧0<i.bytes∧i.zero.any (fun u=>u.cells.size==i.size)∧ts.size=2 then some (.app e i.size i.bytes x y) else none else none
   |some e,some .string=>(P.info? e).bind fun i=>if i.size=1∧0<i.bytes∧i.zero.any (fun u=>u.cells.size==i.size)∧ts.size=2 then some (.apps e i.bytes x y) else none
   |_,_=>none
 | .copy,[x,y]=>
   match(ts[0]?).bind (Ze P),(ts[1]?).bind P.underlying with
   |some e,some (.slice e')=>if e'=e then(P.info? e).bind fun i=>if 0<i.size then some (.copy e i.size x y) else none else none
   |_,_=>none
 | .clear,[x]=>
   match(ts[0]?).bind (Ze P) with
   |some e=>(P.info? e).bind fun i=>(Ya P e).bind fun z=>if 0<i.size then if z.length=i.size then some (.clr e z x) else none else none
   |none=>none
 | .min,x::r=>some (.mn x r)
 | .max,x::r=>some (.mx x r)
 | .real,[x]=>some (.re x)
 | .imag,[x]=>some (.im x)
 | .complex,[x,y]=>some (.cplx x y)
 |_,_=>none
def zc7(c:Call):Option EO:=
 match c.callee with
 | .builtin b=>(yz c.args.toList).bind (JS P b c.argTypes)
 | .value (.func f)=>if zhb P f then(yz c.args.toList).map (.call f) else none
 | .value (.tmp t)=>(yz c.args.toList).map (.callv (.t t))
 |_=>none
def zad(ty:TypeId):Op→Option EO
 | .move x=>(zi x).map .mov
 | .assign x=>(zi x).map .mov
 | .pick c a b=>
   match zi c,zi a,zi b with
   |some c,some a,some b=>some (.pick c a b)
   |_,_,_=>none
 | .alloc t=>
   match QX P t,Ya P t with
   |some (true,n),some z=>if 0<n then some (.new t n (.c (.agg z))) else none
   |some (false,1),some [v]=>some (.new t 1 (.c (.s v)))
   |_,_=>none
 | .box t x=>
   match QX P t,zi x with
   |some (_,n),some y=>if 0<n then some (.new t n y) else none
   |_,_=>none
 | .build t parts=>
   match Ya P t,zd4 P t with
   |some z,some pl=>(qt (pl.toArray[·]?) parts.toList).map (.build z)
   |_,_=>none
 | .buildSlice t n parts=>
   match Ze P t with
   |some e=>
    match P.info? e,Ya P e with
    |some i,some z=>
     if n*i.size≤16777216 then if 0<i.size then if z.length=i.size then
      (qt (fun j=>some (j*i.size,i.size)) parts.toList).map (.bsl e n z) else none else none else none
    |_,_=>none
   |none=>none
 | .load t a=>
   match QX P t,zi a with
   |some (g,n),some y=>some (.load g n y)
   |_,_=>none
 | .store t a x=>
   match QX P t,zi a,zi x with
   |some (_,n),some y,some z=>some (.store n y z)
   |_,_,_=>none
 | .nilCheck x=>if P.underlying ty matches some (.func _ _ _) then(zi x).map .nilf else(zi x).map .nilc
 | .binOp op t x y _=>
   match zi x,zi y with
   |some a,some b=>zkn P op t a b
   |_,_=>none
 | .unOp op _ x=>(zi x).map (.un op)
 | .convert src dst x=>
   match zi x with
   |some y=>
    match P.underlying src,P.underlying dst with
    |some (.int _),some (.int k)=>some (.toi k y)
    |some (.int _),some (.float k)=>some (.itof k y)
    |some (.float _),some (.int k)=>some (.ftoi k y)
    |some (.slice e),some .string=>if P.underlying e matches some (.int .u8) then(P.info? e).bind fun i=>if i.size=1 then some (.b2s e y) else none else none
    |some .string,some (.slice e)=>if P.underlying e matches some (.int .u8) then(P.info? e).bind fun i=>if i.size=1 then some (.s2b e y) else none else none
    |_,_=>none
   |none=>none
 | .makeInterface t x=>
   match P.underlying t,zi x with
   |some (.interface _),_=>none
   |some _,some y=>some (.mki t y)
   |_,_=>none
 | .makeFunc (.func f) first caps=>
   if zhb P f then
    match yz first.toList,yz caps.toList with
    |some a,some b=>some (.mkf f a b)
    |_,_=>none
   else none
 | .makeSlice t l c=>
   match Ze P t,zi l with
   |some e,some y=>
    match P.info? e,Ya P e with
    |some i,some z=>if zbR l c then if 0<i.size∧0<i.bytes then if z.length=i.size then some (.mks e i.bytes z y) else none else none else none
    |_,_=>none
   |_,_=>none
 | .slice t x lo hi mx=>
   match mx with
   |some m=>
    match Ze P t,zi x,lo,hi with
    |some e,some y,none,some u=>if zbC u&&zbC m&&(P.info? e).isSome then some (.sli0 y) else if zbR u m then(P.info? e).bind fun i=>(zi u).bind fun k=>if 0<i.size then some (.cut e i.size y k) else none else none
    |_,_,_,_=>none
   |none=>
    match zi x,Ye lo,Ye hi with
    |some y,some a,some b=>
     if zhv P t then some (.subs y a b)
     else match Ze P t with
      |some e=>(P.info? e).bind fun i=>if 0<i.size then some (.sli e i.size y a b) else none
      |none=>none
    |_,_,_=>none
 | .fieldAddr s x f=>
   match QC P s f,zi x with
   |some g,some y=>(P.info? g.type).bind fun i=>if 0<i.size then some (.fad g.offset y) else none
   |_,_=>none
 | .field s x f=>
   match QC P s f,zi x with
   |some g,some y=>(QX P g.type).map fun p=> .fld p.1 g.offset p.2 y
   |_,_=>none
 | .indexAddr t x i=>
   match Ze P t,zi x,zi i with
   |some e,some y,some j=>(P.info? e).bind fun i=>if 0<i.size then some (.iad e i.size y j) else none
   |none,some y,some j=>
    match P.underlying t with
    |some (.array n e)=>(P.info? e).bind fun i=>if 1<n then some (.iaa n i.size y j) else none
    |_=>none
   |_,_,_=>none
 | .index t x i=>
   match zhv P t,zi x,zi i with
   |true,some y,some j=>some (.idx y j)
   |_,_,_=>none
 | .extract x i=>(zi x).map fun y=> .ext y i
 | .call c=>zc7 P c
 | .panic _=>some (.re (.c (.s .nilp)))
 | .range t x=>if zhv P t then(zi x).map .rng else none
 | .next x s=>if s then(zi x).map .nxt else none
 | .makeMap _ r=>if r.isNone then some .mkm else none
 | .insert t m k x=>
   match zdN P t,zi m,zi k,zi x with
   |some (q,_),some m,some k,some x=>some (.mput q m k x)
   |_,_,_,_=>none
 | .mapUpdate t m k x=>
   match zdN P t,zi m,zi k,zi x with
   |some (q,_),some m,some k,some x=>some (.mput q m k x)
   |_,_,_,_=>none
 | .lookup t m k ok=>
   match zdN P t,zi m,zi k with
   |some (q,e),some m,some k=>
    match zpK P e with
    |some z=>if nlS z then some (.mget q ok z m k) else none
    |none=>none
   |_,_,_=>none
 |_=>none
def zbp:Op→Bool
 | .call c=>match c.callee with
   | .builtin _=>false
   |_=>true
 |_=>false
def zeH(N:Nat)(ops:Array Oper)(o:Oper):Option EG:=
 if o.dst.all (fun d=>decide (d<N)) then
  match zad P o.type o.op with
  |some e=>
   if jA e&& !zbp o.op then none else
   match o.guard with
   |none=>some ⟨o.dst,e,none⟩
   |some (j,b)=>
    match(ops[j]?).bind (·.dst) with
    |some s=>some ⟨o.dst,e,some (s,b)⟩
    |none=>none
  |none=>none
 else none
def Zh(N:Nat)(ops:Array Oper):List Oper→Option (List EG)
 |[]=>some []
 |o::r=>
  match zeH P N ops o with
  |some g=>(Zh N ops r).map (g:: ·)
  |none=>none
end
def paE:EO→Bool
 | .new _ _ _=>true
 | .mks _ _ _ _=>true
 | .bsl _ _ _ _=>true
 | .mkf _ _ _=>true
 | .mki _ _=>true
 |_=>false
def nlV:FV→Bool
 | .s v=>nlS v
 | .agg l=>l.all nlS
 | .tup l=>l.isEmpty
def nlD:OD→Bool
 | .t _=>true
 | .c v=>nlV v
def nlO:Option OD→Bool
 |none=>true
 |some x=>nlD x
def nlE:EO→Bool
 | .mov x| .nilc x| .nilf x| .un _ x| .toi _ x| .itof _ x| .ftoi _ x| .b2s _ x| .mki _ x| .sli0 x| .fad _ x| .fld _ _ _ x| .ext x _| .len x| .slen x| .re x| .im x=>nlD x
 | .load _ _ x=>nlD x
 | .new _ _ x=>nlD x
 | .mks _ _ z x=>z.all nlS&&nlD x
 | .pick c a b=>nlD c&&nlD a&&nlD b
 | .build z ps=>z.all nlS&&ps.all fun p=>nlD p.2.2
 | .bsl _ _ z ps=>z.all nlS&&ps.all fun p=>nlD p.2.2
 | .bin _ x y| .eqb _ x y| .eqp _ x y| .eqn _ x y| .eqs _ _ x y| .cplx x y=>nlD x&&nlD y
 | .mkf _ a b=>a.all nlD&&b.all nlD
 | .sli _ _ x a b=>nlD x&&nlO a&&nlO b
 | .subs x a b=>nlD x&&nlO a&&nlO b
 | .iad _ _ x i=>nlD x&&nlD i
 | .iaa _ _ x i=>nlD x&&nlD i
 | .idx x i=>nlD x&&nlD i
 | .mn x l| .mx x l=>nlD x&&l.all nlD
 | .mlen x=>nlD x
 | .mget _ _ z m k=>nlS z&&nlD m&&nlD k
 |_=>true
def zh5(ops:Array Oper)(l:List EG):List Nat:=
 let b:=Region.before ops;let n:=l.length;let pa:=fun i=>match l[i]? with|some g=>paE g.op|none=>false
 let ch:=fun i=>match l[i]? with|some g=>yt g.op&& !paE g.op|none=>false
 if(List.range n).any fun p=>pa p&&(List.range n).any fun j=>decide (p<j)&&ch j&& !((b.getD j 0).testBit p) then
  let d:=(List.range n).foldl (fun done i=>if !ch i||done.contains i then done else done++((List.range i).filter fun j=>(b.getD i 0).testBit j&& !done.contains j)++[i]) []
  d++(List.range n).filter fun i=> !d.contains i
 else List.range n
def za3(ops:Array Oper)(ord:List Nat)(l:List EG):List (Nat×Nat):=
 let b:=Region.before ops
 (List.range l.length).flatMap fun i=>
   match l[i]? with
   |some g=>
    if Yw g.op&& !paE g.op then(List.range l.length).filterMap fun j=>
     match l[j]? with
     |some g'=>if yt g'.op&&i !=j&& !((b.getD (ord.getD j 0) 0).testBit (ord.getD i 0))&& !((b.getD (ord.getD i 0) 0).testBit (ord.getD j 0))&& !(paE g'.op&&decide (i<j)) then some (i,j) else none
     |none=>none
    else[]
   |none=>[]
def Yl(ord:List Nat)(l:List EG):List EG:=ord.map fun k=>l.getD k ⟨none,.re (.c (.s .nilp)),none⟩
def zfV(ops:Array Oper)(ord:List Nat)(l:List EG):Bool:=
 let b:=Region.before ops
 ord.length==ops.size&&(List.range ops.size).all (fun k=>ord.contains k)&&(ord.all fun k=>decide (k<ops.size))&&
 ((List.range l.length).all fun i=>
   (match ops[ord.getD i 0]? with
    |some o=>o.after.all fun e=> !Region.binds .any e||(ord.take i).contains e.on
    |none=>false)&&
   match l[i]? with
   |some g=>
    nlE g.op&&
    ((List.range l.length).all fun j=>
      (i==j||ord.getD i 0 !=ord.getD j 0)&&
      match l[j]? with
      |some g'=>
       match g'.dst with
       |some d=>(i==j||g.dst !=some d)&&(!(zI g).contains d||i==j||(b.getD (ord.getD i 0) 0).testBit (ord.getD j 0)||(b.getD (ord.getD j 0) 0).testBit (ord.getD i 0))
       |none=>true
      |none=>false)
   |none=>false)
def jr(hs:List (List Nat)):List Nat×List (List Nat):=
 match hs with
 |[]=>([],[])
 |k::r=>(k,r)
section
variable (P:Program)
def yu(N:Nat):Code→List (List Nat)→Option (EC×List (List Nat))
 | .skip,hs=>some (.skip,hs)
 | .region _ ops false,hs=>(Zh P N ops ops.toList).map fun l=>(.ops l (jr hs).1,(jr hs).2)
 | .region _ ops true,hs=>
   match Zh P N ops ops.toList with
   |some l=>
    if zfV ops (zh5 ops l) (Yl (zh5 ops l) l) then some (.draw (Yl (zh5 ops l) l) (za3 ops (zh5 ops l) (Yl (zh5 ops l) l)) (jr hs).1,(jr hs).2) else none
   |none=>none
 | .seq a b,hs=>
   match yu N a hs with
   |some (x,hs')=>(yu N b hs').map fun y=>(.seq x y.1,y.2)
   |none=>none
 | .cond c a b,hs=>
   match zi c,yu N a hs with
   |some x,some (y,hs')=>(yu N b hs').map fun z=>(.cond x y z.1,z.2)
   |_,_=>none
 | .block id b,hs=>(yu N b hs).map fun x=>(.block id x.1,x.2)
 | .loop b,hs=>(yu N b (jr hs).2).map fun x=>(.loop (jr hs).1 x.1,x.2)
 | .exit id,hs=>some (.exit id (jr hs).1,(jr hs).2)
 | .ret,hs=>some (.ret (jr hs).1,(jr hs).2)
 | .label l,hs=>some (.label l,hs)
 | .goto l,hs=>some (.goto l (jr hs).1,(jr hs).2)
 | .scope b,hs=>(yu N b hs).map fun x=>(.scope x.1,x.2)
 |_,_=>none
def zsg:ResultVar→Option ER
 | .tmp t=>some (.tmp t)
 | .cell c t=>(QX P t).map fun p=> .cell c p.1 p.2
def zae:List ResultVar→Option (List ER)
 |[]=>some []
 |r::l=>
  match zsg P r with
  |some x=>(zae l).map (x:: ·)
  |none=>none
def jv(f:Nat)(hs:List (List Nat)):Option EF:=
 match P.funcs[f]? with
 |some fn=>
  match fn.body with
  |some c=>
   if fn.name != "runtime.NumGoroutine" then
    match yu P fn.ntmps c hs,zae P fn.results.toList with
    |some x,some r=>some ⟨fn.ntmps,x.1,r⟩
    |_,_=>none
   else none
  |none=>none
 |none=>none
end
end Go.Proofs.YtdmcfjkgopmlgaaGreatDoor.Ev
namespace Go.Proofs.YtdmcfjkgopmlgaaGreatDoor.Ev
open Go Go.RowKit
section
structure Ph where
 blk:Nat
 base:Nat
 sz:Nat
 cap:Nat
 val:Value
def adr(p:Ph)(prev o:Nat):Addr:=⟨p.blk,p.base+(if p.cap≤o then prev else o)*p.sz,none⟩
def c0(ρ:Nat→Ph):SV→Value
 | .bool b=> .bool b
 | .int k n=> .int k n
 | .flt k b=> .float k b
 | .cpl k a b=> .complex k a b
 | .str s=> .string s
 | .nilp=> .pointer none
 | .ptr i o=> .pointer (some ⟨(ρ i).blk,(ρ i).base+o,none⟩)
 | .nils=> .slice none 0 0
 | .sl i p o n=> .slice (some (adr (ρ i) p o)) n ((ρ i).cap-o)
 | .sl0 i p o=> .slice (some (adr (ρ i) p o)) 0 0
 | .nilm=> .map none
 | .mp i=> .map (some (ρ i).blk)
 | .nilf=> .nilFunc
 | .fn f=> .func (.func f) #[] #[]
 | .cl i=>(ρ i).val
 | .nili=> .nilIface
 | .iv i=>(ρ i).val
def c1(ρ:Nat→Ph):FV→Value
 | .s v=>c0 ρ v
 | .agg l=> .agg (l.map (c0 ρ)).toArray
 | .tup _=>undef
def cv(ρ:Nat→Ph):FV→Value
 | .tup l=> .tuple (l.map (c1 ρ)).toArray
 | .s v=>c0 ρ v
 | .agg l=> .agg (l.map (c0 ρ)).toArray
def wf(ρ:Nat→Ph)(n:Nat):SV→Prop
 | .ptr i _=>i<n
 | .sl i _ o m=>i<n∧o+m≤(ρ i).cap
 | .sl0 i _ _=>i<n
 | .mp i=>i<n
 | .cl i=>i<n∧(ρ i).val.oneCell'=true
 | .iv i=>i<n∧(ρ i).val.oneCell'=true
 |_=>True
def wf1(ρ:Nat→Ph)(n:Nat):FV→Prop
 | .s v=>wf ρ n v
 | .agg l=>∀v∈l,wf ρ n v
 | .tup _=>False
def wfV(ρ:Nat→Ph)(n:Nat):FV→Prop
 | .s v=>wf ρ n v
 | .agg l=>∀v∈l,wf ρ n v
 | .tup l=>∀v∈l,wf1 ρ n v
theorem Jk{ρ:Nat→Ph}{n:Nat}{v:FV}(h:wf1 ρ n v):wfV ρ n v:=by
 cases v with
 |s v=>exact h
 |agg l=>exact h
 |tup l=>exact h.elim
theorem zbs{ρ:Nat→Ph}{n:Nat}{v:FV}(h:wf1 ρ n v):cv ρ v=c1 ρ v:=by
 cases v with
 |s v=>rfl
 |agg l=>rfl
 |tup l=>exact h.elim
def Ext(n:Nat)(ρ ρ':Nat→Ph):Prop:=∀i,i<n→ρ' i=ρ i
theorem Ext.refl(n:Nat)(ρ:Nat→Ph):Ext n ρ ρ:=fun _ _=>rfl
theorem Ext.trans{n m:Nat}{ρ ρ' ρ'':Nat→Ph}(h:Ext n ρ ρ')(hm:n≤m)(h':Ext m ρ' ρ''):Ext n ρ ρ'':=fun i hi=>(h' i (by omega)).trans (h i hi)
theorem ziU{n:Nat}{ρ ρ':Nat→Ph}(h:Ext n ρ ρ'){v:SV}(hv:wf ρ n v):c0 ρ' v=c0 ρ v:=by
 cases v<;>simp only[c0]<;>simp only[wf] at hv<;>first
  |rfl
  |rw[h _ hv]
  |rw[h _ hv.1]
theorem Jl{n m:Nat}{ρ ρ':Nat→Ph}(h:Ext n ρ ρ')(hm:n≤m){v:SV}(hv:wf ρ n v):wf ρ' m v:=by
 cases v<;>simp only[wf] at hv⊢<;>first
  |omega
  |(refine⟨by omega,?_⟩;rw[h _ hv.1];exact hv.2)
theorem q9{n:Nat}{ρ ρ':Nat→Ph}(h:Ext n ρ ρ'){l:List SV}(hv:∀v∈l,wf ρ n v):l.map (c0 ρ')=l.map (c0 ρ):=
 zvo fun v hm=>ziU h (hv v hm)
theorem Q9{n:Nat}{ρ ρ':Nat→Ph}(h:Ext n ρ ρ'){v:FV}(hv:wf1 ρ n v):c1 ρ' v=c1 ρ v:=by
 cases v with
 |s v=>exact ziU h hv
 |agg l=>simp only[c1];rw[q9 h hv]
 |tup l=>rfl
theorem Jj{n m:Nat}{ρ ρ':Nat→Ph}(h:Ext n ρ ρ')(hm:n≤m){v:FV}(hv:wf1 ρ n v):wf1 ρ' m v:=by
 cases v with
 |s v=>exact Jl h hm hv
 |agg l=>exact fun v hl=>Jl h hm (hv v hl)
 |tup l=>exact hv.elim
theorem zsZ{n:Nat}{ρ ρ':Nat→Ph}(h:Ext n ρ ρ'){v:FV}(hv:wfV ρ n v):cv ρ' v=cv ρ v:=by
 cases v with
 |s v=>exact ziU h hv
 |agg l=>simp only[cv];rw[q9 h hv]
 |tup l=>
  simp only[cv];rw[zvo fun v hm=>Q9 h (hv v hm)]
theorem zbl{n m:Nat}{ρ ρ':Nat→Ph}(h:Ext n ρ ρ')(hm:n≤m){v:FV}(hv:wfV ρ n v):wfV ρ' m v:=by
 cases v with
 |s v=>exact Jl h hm hv
 |agg l=>exact fun v hl=>Jl h hm (hv v hl)
 |tup l=>exact fun v hl=>Jj h hm (hv v hl)
theorem ziV{ρ:Nat→Ph}{n:Nat}{v:SV}(hv:wf ρ n v):(c0 ρ v).oneCell'=true:=by
 cases v<;>first
  |rfl
  |exact hv.2
theorem zfG{v:Value}{x:SV}(h:ziO v=some x)(ρ:Nat→Ph):c0 ρ x=v:=by
 unfold ziO at h
 split at h<;>first
  |(obtain rfl:=zuG h;rfl)
  |(cases h;done)
  |(rename_i f a b
    split at h
    ·rename_i ha;split at h
     ·rename_i hb;obtain rfl:=zuG h;rw[zwo ha,zwo hb];rfl
     ·cases h
    ·cases h)
theorem zj9{v:Value}{x:SV}(h:ziO v=some x)(ρ:Nat→Ph)(n:Nat):wf ρ n x:=by
 unfold ziO at h
 split at h<;>first
  |(obtain rfl:=zuG h;exact trivial)
  |(cases h;done)
  |(split at h
    ·split at h
     ·obtain rfl:=zuG h;exact trivial
     ·cases h
    ·cases h)
theorem zfE:∀{l:List Value} {xs:List SV},zfD l=some xs→∀ρ:Nat→Ph,xs.map (c0 ρ)=l
 |[],xs,h,ρ=>by simp only[zfD,zuE] at h;subst h;rfl
 |v::r,xs,h,ρ=>by
  simp only[zfD] at h;split at h
  ·rename_i x hx;obtain⟨ys,hy,rfl⟩:=zuI.1 h;simp only[zu2];rw[zfG hx,zfE hy]
  ·cases h
theorem zfF:∀{l:List Value} {xs:List SV},zfD l=some xs→∀(ρ:Nat→Ph) (n:Nat),∀v∈xs,wf ρ n v
 |[],xs,h,ρ,n=>by simp only[zfD,zuE] at h;subst h;simp
 |v::r,xs,h,ρ,n=>by
  simp only[zfD] at h;split at h
  ·rename_i x hx;obtain⟨ys,hy,rfl⟩:=zuI.1 h;intro u hu;rcases zuX.1 hu with rfl|hu
   ·exact zj9 hx ρ n
   ·exact zfF hy ρ n u hu
  ·cases h
theorem zpW{v:Value}{x:FV}(h:zmV v=some x)(ρ:Nat→Ph):cv ρ x=v:=by
 unfold zmV at h;split at h
 ·rename_i cs;obtain⟨l,hl,rfl⟩:=zuI.1 h;simp only[cv];rw[zfE hl]
 ·obtain⟨l,hl,rfl⟩:=zuI.1 h;exact zfG hl ρ
theorem zpX{v:Value}{x:FV}(h:zmV v=some x)(ρ:Nat→Ph)(n:Nat):wf1 ρ n x:=by
 unfold zmV at h;split at h
 ·rename_i cs;obtain⟨l,hl,rfl⟩:=zuI.1 h;exact zfF hl ρ n
 ·obtain⟨l,hl,rfl⟩:=zuI.1 h;exact zj9 hl ρ n
structure FrR(ρ:Nat→Ph)(n N:Nat)(fr:Fr)(a:Act):Prop where
 size:a.tmps.size=N
 defers:a.defers=[]
 get:∀t v,yq fr t=some v→t<N∧a.tmps.getD t undef=cv ρ v∧wfV ρ n v
theorem FrR.ext{ρ ρ':Nat→Ph}{n m N:Nat}{fr:Fr}{a:Act}(h:FrR ρ n N fr a)(he:Ext n ρ ρ')(hm:n≤m):FrR ρ' m N fr a:=
 ⟨h.size,h.defers,fun t v hv=>by
   obtain⟨h1,h2,h3⟩:=h.get t v hv;exact⟨h1,h2.trans (zsZ he h3).symm,zbl he hm h3⟩⟩
theorem QZ{xs:Array Value}{d:Nat}{v:Value}(h:d<xs.size):(xs.setIfInBounds d v).getD d undef=v:=by simp[zvF,zw1,h]
theorem Zj{xs:Array Value}{d t:Nat}{v:Value}(h:d≠t):(xs.setIfInBounds d v).getD t undef=xs.getD t undef:=by simp[zvF,zw1,h]
theorem FrR.put{ρ:Nat→Ph}{n N:Nat}{fr:Fr}{a:Act}(h:FrR ρ n N fr a){d:Option Nat}(hd:∀t,d=some t→t<N){v:FV}(hv:wfV ρ n v):
 FrR ρ n N (qx fr d (some v)) (a.put d (cv ρ v)):=by
 cases d with
 |none=>exact h
 |some t=>
  have ht:=hd t rfl;refine⟨by simp[Act.put,h.size],h.defers,fun u x hx=> ?_⟩;simp only[qx,yq] at hx;by_cases e:u=t
  ·subst e;rw[zuO rfl] at hx;obtain rfl:=zuG hx;exact⟨ht,QZ (by rw[h.size];exact ht),hv⟩
  ·rw[zuQ e] at hx;obtain⟨h1,h2,h3⟩:=h.get u x hx;exact⟨h1,(Zj (Ne.symm e)).trans h2,h3⟩
theorem FrR.drop{ρ:Nat→Ph}{n N:Nat}{fr:Fr}{a:Act}(h:FrR ρ n N fr a)(d:Option Nat)(x:Value):FrR ρ n N (qx fr d none) (a.put d x):=by
 cases d with
 |none=>exact h
 |some t=>
  refine⟨by simp[Act.put,h.size],h.defers,fun u y hx=> ?_⟩;simp only[qx,yq] at hx;by_cases e:u=t
  ·rw[zuO e] at hx;cases hx
  ·rw[zuQ e] at hx;obtain⟨h1,h2,h3⟩:=h.get u y hx;exact⟨h1,(Zj (Ne.symm e)).trans h2,h3⟩
theorem zeO{fr:Fr}{keep:List Nat}{t:Nat}{v:FV}(h:yq (zl keep fr) t=some v):yq fr t=some v:=by
 induction keep with
 |nil=>cases h
 |cons k r ih=>
  simp only[zl,zu2,yq] at h;by_cases e:t=k
  ·rw[zuO e] at h;rw[e];exact h
  ·rw[zuQ e] at h;exact ih h
theorem FrR.keep{ρ:Nat→Ph}{n N:Nat}{fr:Fr}{a:Act}(h:FrR ρ n N fr a)(keep:List Nat):FrR ρ n N (zl keep fr) a:=
 ⟨h.size,h.defers,fun t v hv=>h.get t v (zeO hv)⟩
theorem ja{ρ:Nat→Ph}{n N:Nat}{fr:Fr}{a:Act}(h:FrR ρ n N fr a){x:Operand}{y:OD}(hc:zi x=some y){v:FV}(hv:odE fr y=some v):a.eval x=cv ρ v∧wfV ρ n v:=by
 cases x with
 |tmp t=>
  simp only[zi,zuE] at hc;subst hc;obtain⟨_,h2,h3⟩:=h.get t v hv;exact⟨h2,h3⟩
 |const u=>
  obtain⟨z,hz,rfl⟩:=zuI.1 hc;simp only[odE,zuE] at hv;subst hv;exact⟨(zpW hz ρ).symm,Jk (zpX hz ρ n)⟩
 |global g=>cases hc
 |func f=>
  simp only[zi,zuE] at hc;subst hc;simp only[odE,zuE] at hv;subst hv;exact⟨rfl,trivial⟩
theorem zdX{fr:Fr}{y:OD}{v:SV}(h:odS fr y=some v):odE fr y=some (.s v):=by
 unfold odS at h;split at h
 ·rename_i u hu;obtain rfl:=zuG h;exact hu
 ·cases h
theorem zh{ρ:Nat→Ph}{n N:Nat}{fr:Fr}{a:Act}(h:FrR ρ n N fr a){x:Operand}{y:OD}(hc:zi x=some y){v:SV}(hv:odS fr y=some v):a.eval x=c0 ρ v∧wf ρ n v:=
 ja h hc (zdX hv)
def LO.holds:LO→Bool
 | .own _ _=>true
 | .map _=>true
 | .iter _ _=>true
 |_=>false
def LO.whole:LO→Bool
 | .map _=>true
 | .iter _ _=>true
 |_=>false
theorem zhu{v:SV}(h:∃q,Jr q v=true):nlS v=true:=by
 obtain⟨q,h⟩:=h;cases v<;>first|rfl|cases h
theorem zso{ρ ρ':Nat→Ph}{v:SV}(h:nlS v=true):c0 ρ' v=c0 ρ v:=by cases v<;>first|rfl|cases h
theorem J8{ρ:Nat→Ph}{n:Nat}{v:SV}(h:nlS v=true):wf ρ n v:=by cases v<;>first|trivial|cases h
theorem zoi{ρ ρ':Nat→Ph}{es:List (SV×SV)}(h:∀x∈es,(∃q,Jr q x.1=true)∧nlS x.2=true):(es.map fun x=>(c0 ρ' x.1,c0 ρ' x.2))=es.map fun x=>(c0 ρ x.1,c0 ρ x.2):=
 zvo fun x hx=>by rw[zso (ρ':=ρ') (ρ:=ρ) (zhu (h x hx).1),zso (ρ':=ρ') (ρ:=ρ) (h x hx).2]
def Q7(P:Program)(B:Nat)(ρ:Nat→Ph)(n:Nat)(p:Ph)(w:World):LO→Prop
 | .own t vs=>B≤p.blk∧p.blk<w.heap.size∧p.sz=P.cellsOf t∧w.there p.blk p.base (p.cap*p.sz)∧w.rangeAt p.blk p.base (vs.map (c0 ρ))∧vs.length≤p.cap*p.sz∧∀v∈vs,wf ρ n v
 | .ro t vs=>p.blk<B∧p.sz=P.cellsOf t∧w.rangeAt p.blk p.base (vs.map (c0 ρ))∧∀v∈vs,wf ρ n v
 | .dead=>True
 | .clo f a b=>p.val= .func (.func f) (a.map (c1 ρ)).toArray (b.map (c1 ρ)).toArray∧(∀v∈a,wf1 ρ n v)∧∀v∈b,wf1 ρ n v
 | .ifc t v=>p.val= .iface t (c1 ρ v)∧wf1 ρ n v
 | .map es=>B≤p.blk∧p.blk<w.heap.size∧(∃ms,w.heap[p.blk]? =some (.map ms ms.size)∧ms.toList.map (fun e=>(e.key,e.val))=es.map (fun x=>(c0 ρ x.1,c0 ρ x.2))∧ms.toList.map (·.born)=List.range ms.size)∧∀x∈es,(∃q,Jr q x.1=true)∧nlS x.2=true
 | .iter s pos=>B≤p.blk∧p.blk<w.heap.size∧p.base=0∧w.heap[p.blk]? =some (.stringIter s pos)
structure Base where
 w:World
 B:Nat
 F:Nat→Prop
 dr:Bool
structure BelD(d:Bool)(B:Nat)(w w':World):Prop extends Below B w w' where
 drawn:d=true→w.drawn≤w'.drawn
theorem zeq(w:World)(a:Addr)(v:Value):(w.setCell a v).drawn=w.drawn:=by
 unfold World.setCell
 repeat' split
 all_goals rfl
theorem ZH:∀(vs:List Value) (w:World) (g o:Nat),(w.setCells g o vs).drawn=w.drawn
 |[],w,g,o=>rfl
 |v::r,w,g,o=>(ZH r _ g (o+1)).trans (zeq _ _ _)
theorem BelD.refl(d:Bool)(B:Nat)(w:World):BelD d B w w:=⟨Below.refl _ _,fun _=>zuL _⟩
theorem BelD.tr{d:Bool}{B:Nat}{a b c:World}(h:BelD d B a b)(k:Below B b c)(hd:d=true→b.drawn≤c.drawn):BelD d B a c:=⟨h.toBelow.trans k,fun e=>zvz (h.drawn e) (hd e)⟩
theorem BelD.trans{d:Bool}{B:Nat}{a b c:World}(h:BelD d B a b)(k:BelD d B b c):BelD d B a c:=h.tr k.toBelow k.drawn
theorem BelD.alloc{d:Bool}{B:Nat}{a w:World}(h:BelD d B a w)(hB:B≤w.heap.size)(o:Obj):BelD d B a (w.alloc o):=⟨h.toBelow.alloc hB o,h.drawn⟩
structure Rel(P:Program)(w0:Base)(ρ:Nat→Ph)(h:LH)(w:World):Prop where
 below:BelD w0.dr w0.B w0.w w
 hB:w0.B≤w0.w.heap.size
 keep:∀k,w0.F k→k<w0.w.heap.size∧w.heap[k]? =w0.w.heap[k]?
 out:∀i o,h[i]? =some o→o.holds=true→¬w0.F (ρ i).blk
 obj:∀i o,h[i]? =some o→Q7 P w0.B ρ h.length (ρ i) w o
 inj:∀i j o o',h[i]? =some o→h[j]? =some o'→i≠j→o.holds=true→o'.holds=true→(ρ i).blk≠(ρ j).blk
variable {P:Program} {w0:Base}
theorem Rel.size{ρ:Nat→Ph}{h:LH}{w:World}(r:Rel P w0 ρ h w):w0.B≤w.heap.size:=zvz r.hB r.below.size
theorem Q7.moved{B n m:Nat}{ρ ρ':Nat→Ph}{p:Ph}{w w':World}{o:LO}(h:Q7 P B ρ n p w o)(he:Ext n ρ ρ')(hm:n≤m)(hs:w.heap.size≤w'.heap.size)
 (hc:(o.holds=true∨p.blk<B)→∀j v,w.cell? ⟨p.blk,j,none⟩=some v→w'.cell? ⟨p.blk,j,none⟩=some v) (hf:o.holds=true→∀j,w'.frozen? ⟨p.blk,j,none⟩=w.frozen? ⟨p.blk,j,none⟩) (hwh:o.whole=true→w'.heap[p.blk]? =w.heap[p.blk]?):
   Q7 P B ρ' m p w' o:=by
 cases o with
 |own t vs=>
  obtain⟨h1,h2,h3,h4,h5,h6,h7⟩:=h;refine⟨h1,by omega,h3,fun j hj=> ?_,fun j v hv=> ?_,h6,fun v hv=>Jl he hm (h7 v hv)⟩
  ·obtain⟨q1,q2⟩:=h4 j hj;obtain⟨u,hu⟩:=zv3.1 q1;exact⟨by rw[hc (.inl rfl) _ u hu];rfl,by rw[hf rfl];exact q2⟩
  ·rw[q9 he h7] at hv;exact hc (.inl rfl) _ _ (h5 j v hv)
 |ro t vs=>
  obtain⟨h1,h2,h3,h4⟩:=h;refine⟨h1,h2,fun j v hv=> ?_,fun v hv=>Jl he hm (h4 v hv)⟩;rw[q9 he h4] at hv;exact hc (.inr h1) _ _ (h3 j v hv)
 |dead=>trivial
 |clo f a b=>
  obtain⟨h1,h2,h3⟩:=h;refine⟨?_,fun v hv=>Jj he hm (h2 v hv),fun v hv=>Jj he hm (h3 v hv)⟩;rw[h1,zvo fun v hv=>Q9 he (h2 v hv),zvo fun v hv=>Q9 he (h3 v hv)]
 |ifc t v=>
  obtain⟨h1,h2⟩:=h;exact⟨by rw[h1,Q9 he h2],Jj he hm h2⟩
 |map es=>
  obtain⟨h1,h2,⟨ms,h3,h4,h6⟩,h5⟩:=h;exact⟨h1,by omega,⟨ms,by rw[hwh rfl];exact h3,by rw[h4];exact(zoi h5).symm,h6⟩,h5⟩
 |iter s p=>
  obtain⟨h1,h2,h3,h4⟩:=h;exact⟨h1,by omega,h3,by rw[hwh rfl];exact h4⟩
theorem Rel.drewN{ρ:Nat→Ph}{h:LH}{w:World}(r:Rel P w0 ρ h w)(k:Nat):Rel P w0 ρ h (w.drewN k):=
 ⟨⟨⟨r.below.os,r.below.tape,r.below.output,r.below.size,r.below.block⟩,fun e=>zvz (r.below.drawn e) (zwY _ _)⟩,r.hB,r.keep,r.out,fun i o hi=>(r.obj i o hi).moved (Ext.refl _ _) (zuL _) (zuL _) (fun _ _ _ hv=>hv) (fun _ _=>rfl) (fun _=>rfl),r.inj⟩
theorem Rel.drew{ρ:Nat→Ph}{h:LH}{w:World}(r:Rel P w0 ρ h w):Rel P w0 ρ h w.drew:=r.drewN 1
def upd(ρ:Nat→Ph)(n:Nat)(p:Ph):Nat→Ph:=fun i=>if i=n then p else ρ i
theorem zu(ρ:Nat→Ph)(n:Nat)(p:Ph):upd ρ n p n=p:=zuO rfl
theorem yx(ρ:Nat→Ph)(n:Nat)(p:Ph):Ext n ρ (upd ρ n p):=fun i hi=>zuQ (by omega)
theorem yI{h:LH}{i:Nat}{o:LO}(hi:h[i]? =some o):i<h.length:=(zuJ.1 hi).1
theorem Rel.pseudo{ρ:Nat→Ph}{h:LH}{w:World}(r:Rel P w0 ρ h w)(p:Ph)(o:LO)(hh:o.holds=false)
 (ho:Q7 P w0.B (upd ρ h.length p) (h.length+1) p w o):Rel P w0 (upd ρ h.length p) (h++[o]) w:=by
 have he:=yx ρ h.length p;have key:∀(i:Nat) (o':LO),(h++[o])[i]? =some o'→o'.holds=true→h[i]? =some o':=by
  intro i o' hi hk;rcases zwk i h.length with hlt|hge
  ·rwa [zuK hlt] at hi
  ·have hlt:=yI hi;rw[zuM,zuS] at hlt;obtain rfl:i=h.length:=by omega
   rw[zuN (zuL _),zvG] at hi;obtain rfl:=zuG hi;rw[hh] at hk;cases hk
 refine⟨r.below,r.hB,r.keep,fun i o' hi hk=>by have a:=key i o' hi hk;rw[he i (yI a)];exact r.out i o' a hk,fun i o' hi=> ?_,fun i j o1 o2 hi hj hne k1 k2=> ?_⟩
 ·rw[zuM,zuS];rcases zwk i h.length with hlt|hge
  ·rw[zuK hlt] at hi;rw[he i hlt];exact(r.obj i o' hi).moved he (by omega) (zuL _) (fun _ _ _ hv=>hv) (fun _ _=>rfl) (fun _=>rfl)
  ·have hlt:=yI hi;rw[zuM,zuS] at hlt;obtain rfl:i=h.length:=by omega
   rw[zuN (zuL _),zvG] at hi;obtain rfl:=zuG hi;rw[zu];exact ho
 ·have a:=key i o1 hi k1;have b:=key j o2 hj k2;rw[he i (yI a),he j (yI b)];exact r.inj i j o1 o2 a b hne k1 k2
theorem Rel.alloc{ρ:Nat→Ph}{h:LH}{w:World}(r:Rel P w0 ρ h w)(t:Nat)(c:Array Value)(vs:List SV)(cap:Nat)
 (hsz:c.size=cap*P.cellsOf t) (hvs:vs.length≤cap*P.cellsOf t) (hc:∀(j:Nat) (v:SV),vs[j]? =some v→c[j]? =some (c0 ρ v)) (hw:∀v∈vs,wf ρ h.length v):
 Rel P w0 (upd ρ h.length ⟨w.heap.size,0,P.cellsOf t,cap,undef⟩) (h++[.own t vs]) (w.alloc (.cells c t)):=by
 have he:=yx ρ h.length ⟨w.heap.size,0,P.cellsOf t,cap,undef⟩;have hsize:(w.alloc (.cells c t)).heap.size=w.heap.size+1:=by show(w.heap.push _).size=_;rw[zwQ]
 refine⟨r.below.alloc r.size _,r.hB,fun k hk=> ?_,fun i o' hi hk=> ?_,fun i o' hi=> ?_,fun i j o1 o2 hi hj hne k1 k2=> ?_⟩
 ·obtain⟨k1,k2⟩:=r.keep k hk;refine⟨k1,?_⟩;rw[←k2];have:k<w.heap.size:=zvB k1 r.below.size;show(w.heap.push _)[k]? =_;rw[Array.getElem?_push_lt this,zvy this]
 ·rcases zwk i h.length with hlt|hge
  ·rw[zuK hlt] at hi;rw[he i hlt];exact r.out i o' hi hk
  ·have hlt:=yI hi;rw[zuM,zuS] at hlt;obtain rfl:i=h.length:=by omega
   rw[zu];intro hF;have:=(r.keep _ hF).1;have:=r.below.size;simp only at *;omega
 ·rw[zuM,zuS];rcases zwk i h.length with hlt|hge
  ·rw[zuK hlt] at hi;rw[he i hlt];have hlt':(o'.holds=true∨(ρ i).blk<w0.B)→(ρ i).blk<w.heap.size:=by
    rintro(hk|hk)
    ·have:=r.obj i o' hi
     cases o'<;>simp[LO.holds] at hk<;>first
      |exact this.2.1
    ·have:=r.size;omega
   refine(r.obj i o' hi).moved he (by omega) (by omega) (fun hk j v hv=> ?_) (fun hk j=> ?_) (fun hk=> ?_)
   ·rw[World.cell?_alloc_lt _ _ _ (hlt' hk)];exact hv
   ·exact World.frozen?_alloc_past _ _ _ (hlt' (.inl hk))
   ·have hl:(ρ i).blk<w.heap.size:=hlt' (.inl (by cases o'<;>first|rfl|cases hk));show(w.heap.push _)[(ρ i).blk]? =_;rw[Array.getElem?_push_lt hl,zvy hl]
  ·have hlt:=yI hi;rw[zuM,zuS] at hlt;obtain rfl:i=h.length:=by omega
   rw[zuN (zuL _),zvG] at hi;obtain rfl:=zuG hi;rw[zu];refine⟨r.size,by rw[hsize];exact zwG _,rfl,fun j hj=> ?_,fun j v hv=> ?_,hvs,fun v hv=>Jl he (by omega) (hw v hv)⟩
   ·simp only[zvn];refine⟨?_,World.frozen?_alloc_new _ _ _ _⟩;rw[World.cell?_alloc_new,zvy (by rw[hsz];exact hj)];rfl
   ·simp only[zvn];rw[q9 he hw,zvC] at hv;obtain⟨x,hx,rfl⟩:=zuI.1 hv;rw[World.cell?_alloc_new];exact hc j x hx
 ·have key:∀(i:Nat) (o':LO),(h++[LO.own t vs])[i]? =some o'→(i<h.length∧h[i]? =some o')∨i=h.length:=by
   intro i o' hi;rcases zwk i h.length with hlt|hge
   ·rw[zuK hlt] at hi;exact .inl ⟨hlt,hi⟩
   ·have hlt:=yI hi;rw[zuM,zuS] at hlt;exact .inr (by omega)
  have old:∀(i:Nat) (o':LO),h[i]? =some o'→o'.holds=true→(ρ i).blk<w.heap.size:=by
   intro i o' hi hk;have:=r.obj i o' hi
   cases o'<;>simp[LO.holds] at hk<;>first
    |exact this.2.1
  rcases key i o1 hi with⟨l1,a⟩|rfl<;>rcases key j o2 hj with⟨l2,b⟩|rfl
  ·rw[he i l1,he j l2];exact r.inj i j o1 o2 a b hne k1 k2
  ·rw[he i l1,zu];have:=old i o1 a k1;exact Nat.ne_of_lt this
  ·rw[he j l2,zu];have:=old j o2 b k2;exact Nat.ne_of_gt this
  ·exact absurd rfl hne
theorem Ql:∀(l vs:List SV) (o:Nat),(qr vs o l).length=vs.length
 |[],vs,o=>rfl
 |c::r,vs,o=>by rw[qr,Ql r];simp
theorem zed:∀(l vs:List SV) (o:Nat),o+l.length≤vs.length→∀j,(qr vs o l)[j]? =if o≤j∧j<o+l.length then l[j-o]? else vs[j]?
 |[],vs,o,_,j=>by
  simp only[qr,zv1,zwa];rw[zuQ (by omega)]
 |c::r,vs,o,h,j=>by
  rw[zvr] at h;rw[qr,zed r (vs.set o c) (o+1) (by rw[zvi];omega) j,zvr];by_cases h1:o+1≤j∧j<o+1+r.length
  ·rw[zuO h1,zuO (by omega),show j-o=(j-(o+1))+1 by omega,zvL]
  ·rw[zuQ h1];by_cases h2:j=o
   ·subst h2;rw[zuO (by omega),zvG,zvt,zu1 (by omega)]
   ·rw[zuQ (by omega),zuR (Ne.symm h2)]
theorem zir{l vs:List SV}{o:Nat}(h:o+l.length≤vs.length){v:SV}(hv:v∈qr vs o l):v∈vs∨v∈l:=by
 obtain⟨j,hj⟩:=zwO.1 hv;rw[zed l vs o h j] at hj;split at hj
 ·exact .inr (zvE hj)
 ·exact .inl (zvE hj)
theorem Zf{b k:Nat}(hk:k≠b):∀(vs:List Value) (o:Nat) (w:World),(w.setCells b o vs).heap[k]? =w.heap[k]?
 |[],o,w=>rfl
 |v::r,o,w=>by rw[World.setCells,Zf hk r];simp[World.setCell,Array.getElem?_modify,Ne.symm hk]
theorem Rel.keepSet{ρ:Nat→Ph}{h:LH}{w:World}(r:Rel P w0 ρ h w){i:Nat}{o:LO}(hi:h[i]? =some o)(hh:o.holds=true)(x:Nat)(l:List Value):∀k,w0.F k→k<w0.w.heap.size∧(w.setCells (ρ i).blk x l).heap[k]? =w0.w.heap[k]? :=by intro k hk;obtain⟨k1,k2⟩:=r.keep k hk;refine⟨k1,?_⟩;have hne:k≠(ρ i).blk:=fun e=>r.out i o hi hh (by rw[←e];exact hk);rw[Zf hne,k2]
theorem Rel.store{ρ:Nat→Ph}{h:LH}{w:World}(r:Rel P w0 ρ h w){i t:Nat}{vs l:List SV}{o:Nat}(hi:h[i]? =some (.own t vs))(hl:o+l.length≤vs.length)(hw:∀v∈l,wf ρ h.length v):
 Rel P w0 ρ (h.set i (.own t (qr vs o l))) (w.setCells (ρ i).blk ((ρ i).base+o) (l.map (c0 ρ))):=by
 have hob:=r.obj i _ hi;obtain⟨b1,b2,b3,b4,b5,b6,b7⟩:=hob;have hsome:∀j,j<(l.map (c0 ρ)).length→(w.cell? ⟨(ρ i).blk,(ρ i).base+o+j,none⟩).isSome=true:=by
  intro j hj;rw[zu9] at hj;have:=(b4 (o+j) (by omega)).1
  rwa [←zwd] at this
 have key0:∀(j:Nat) (o':LO),(h.set i (LO.own t (qr vs o l)))[j]? =some o'→o'.holds=true→∃o'',h[j]? =some o''∧o''.holds=true:=by
  intro j o' hj hk;by_cases e:j=i
  ·subst e;exact⟨_,hi,rfl⟩
  ·rw[zuR (Ne.symm e)] at hj;exact⟨o',hj,hk⟩
 refine⟨r.below.tr ((Go.Lib.below_setCells_w b1 _ _ _).mono (zuL _)) (fun _=>Nat.le_of_eq (ZH _ _ _ _).symm),r.hB,r.keepSet hi rfl _ _,fun j o' hj hk=>by obtain⟨p,a1,a2⟩:=key0 j o' hj hk;exact r.out j p a1 a2,fun j o' hj=> ?_,fun j k o1 o2 hj hk hne k1 k2=> ?_⟩
 ·rw[zvi];by_cases e:j=i
  ·subst e;rw[zu1 (yI hi)] at hj;obtain rfl:=zuG hj;refine⟨b1,by rw[size_setCells_w];exact b2,b3,World.there_setCells b4 _ _ _,fun k v hv=> ?_,by rw[Ql];exact b6,fun v hv=>(zir hl hv).elim (b7 v) (hw v)⟩;rw[zvC,zed l vs o hl k] at hv;by_cases c:o≤k∧k<o+l.length
   ·rw[zuO c] at hv;have hlt:k-o<(l.map (c0 ρ)).length:=by rw[zu9];omega
    have:=World.cell?_setCells_in (ρ j).blk (l.map (c0 ρ)) ((ρ j).base+o) w hsome (k-o) hlt;rw[show(ρ j).base+o+(k-o)=(ρ j).base+k by omega] at this;rw[this,←hv,←zvC,zuV hlt]
   ·rw[zuQ c,←zvC] at hv;rw[World.cell?_setCells_out _ _ _ _ _ (fun _ _=>by simp only[zu9];omega)];exact b5 k v hv
  ·rw[zuR (Ne.symm e)] at hj;refine(r.obj j o' hj).moved (Ext.refl _ _) (zuL _) (by rw[size_setCells_w];exact zuL _) (fun hk k v hv=> ?_) (fun _ _=>World.frozen?_setCells _ _ _ _ _) (fun hk=> ?_)
   ·rw[World.cell?_setCells_out _ _ _ _ _ (fun hb _=> ?_)]
    ·exact hv
    ·exfalso;rcases hk with hk|hk
     ·exact r.inj j i o' _ hj hi e hk rfl hb
     ·simp only at hb;omega
   ·exact Zf (r.inj j i o' _ hj hi e (by cases o'<;>first|rfl|cases hk) rfl) _ _ _
 ·have key:∀(j:Nat) (o':LO),(h.set i (LO.own t (qr vs o l)))[j]? =some o'→o'.holds=true→∃o'',h[j]? =some o''∧o''.holds=true:=by
   intro j o' hj hk;by_cases e:j=i
   ·subst e;exact⟨_,hi,rfl⟩
   ·rw[zuR (Ne.symm e)] at hj;exact⟨o',hj,hk⟩
  obtain⟨p1,a1,a2⟩:=key j o1 hj k1;obtain⟨p2,c1,c2⟩:=key k o2 hk k2;exact r.inj j k p1 p2 a1 c1 hne a2 c2
where
 size_setCells_w:∀{b o:Nat} {vs:List Value} {w:World},(w.setCells b o vs).heap.size=w.heap.size:=by
  intro b o vs w
  induction vs generalizing o w with
  |nil=>rfl
  |cons v r ih=>rw[World.setCells,ih];simp[World.setCell]
theorem Rel.kill{ρ:Nat→Ph}{h:LH}{w:World}(r:Rel P w0 ρ h w)(i:Nat):Rel P w0 ρ (h.set i .dead) w:=by
 have key:∀(j:Nat) (o':LO),(h.set i LO.dead)[j]? =some o'→o'= .dead∨h[j]? =some o':=by
  intro j o' hj;by_cases e:j=i
  ·subst e;have:=yI hj;rw[zvi] at this;rw[zu1 this] at hj;exact .inl (zuG hj).symm
  ·rw[zuR (Ne.symm e)] at hj;exact .inr hj
 refine⟨r.below,r.hB,r.keep,fun j o' hj hk=>by
  rcases key j o' hj with rfl|hj
  ·cases hk
  ·exact r.out j o' hj hk,fun j o' hj=> ?_,fun j k o1 o2 hj hk hne k1 k2=> ?_⟩
 ·rw[zvi];rcases key j o' hj with rfl|hj
  ·trivial
  ·exact r.obj j o' hj
 ·rcases key j o1 hj with rfl|hj
  ·cases k1
  ·rcases key k o2 hk with rfl|hk
   ·cases k2
   ·exact r.inj j k o1 o2 hj hk hne k1 k2
theorem Rel.inplace{ρ:Nat→Ph}{h:LH}{w:World}(r:Rel P w0 ρ h w){i t:Nat}{vs new:List SV}{o m n:Nat}(hi:h[i]? =some (.own t vs))(hom:(o+m)*(ρ i).sz≤vs.length)(hn:new.length=n*(ρ i).sz)
 {c:Nat} (hc1:m+n≤c) (hc2:o+c≤(ρ i).cap) (hw:∀v∈new,wf ρ h.length v):
 Rel P w0 (upd ρ h.length ⟨(ρ i).blk,(ρ i).base+o*(ρ i).sz,(ρ i).sz,c,undef⟩) (h.set i .dead++[.own t ((vs.drop (o*(ρ i).sz)).take (m*(ρ i).sz)++new)])
  (w.setCells (ρ i).blk ((ρ i).base+o*(ρ i).sz+m*(ρ i).sz) (new.map (c0 ρ))):=by
 have he:=yx ρ h.length ⟨(ρ i).blk,(ρ i).base+o*(ρ i).sz,(ρ i).sz,c,undef⟩;have hcap:o+m+n≤(ρ i).cap:=by omega
 obtain⟨b1,b2,b3,b4,b5,b6,b7⟩:=r.obj i _ hi;have hil:=yI hi;have hlen:(h.set i LO.dead++[LO.own t ((vs.drop (o*(ρ i).sz)).take (m*(ρ i).sz)++new)]).length=h.length+1:=by simp
 have hmul:(o+m+n)*(ρ i).sz≤(ρ i).cap*(ρ i).sz:=zvf _ hcap;have hmul2:o*(ρ i).sz+c*(ρ i).sz≤(ρ i).cap*(ρ i).sz:=by rw[←zvv];exact zvf _ hc2
 have hmul3:(m+n)*(ρ i).sz≤c*(ρ i).sz:=zvf _ hc1;rw[zvv] at hmul3;rw[zvv,zvv] at hmul;rw[zvv] at hom;have hsome:∀j,j<(new.map (c0 ρ)).length→(w.cell? ⟨(ρ i).blk,(ρ i).base+o*(ρ i).sz+m*(ρ i).sz+j,none⟩).isSome=true:=by intro j hj;rw[zu9] at hj;have:=(b4 (o*(ρ i).sz+m*(ρ i).sz+j) (by omega)).1;rw[show(ρ i).base+o*(ρ i).sz+m*(ρ i).sz+j=(ρ i).base+(o*(ρ i).sz+m*(ρ i).sz+j) by omega];exact this
 have hclen:((vs.drop (o*(ρ i).sz)).take (m*(ρ i).sz)).length=m*(ρ i).sz:=by rw[zu0,zvQ];omega
 have key:∀(j:Nat) (o':LO),(h.set i LO.dead++[LO.own t ((vs.drop (o*(ρ i).sz)).take (m*(ρ i).sz)++new)])[j]? =some o'→(j<h.length∧(o'= .dead∨(j≠i∧h[j]? =some o')))∨(j=h.length∧o'= .own t ((vs.drop (o*(ρ i).sz)).take (m*(ρ i).sz)++new)):=by
  intro j o' hj;have hlt:=yI hj;rw[hlen] at hlt;rcases zwk j h.length with hl|hg
  ·rw[zuK (by rw[zvi];exact hl)] at hj;by_cases e:j=i
   ·subst e;rw[zu1 hl] at hj;exact .inl ⟨hl,.inl (zuG hj).symm⟩
   ·rw[zuR (Ne.symm e)] at hj;exact .inl ⟨hl,.inr ⟨e,hj⟩⟩
  ·obtain rfl:j=h.length:=by omega
   rw[zuN (by rw[zvi];exact zuL _),zvi,zvG] at hj;exact .inr ⟨rfl,(zuG hj).symm⟩
 refine⟨r.below.tr ((Go.Lib.below_setCells_w b1 _ _ _).mono (zuL _)) (fun _=>Nat.le_of_eq (ZH _ _ _ _).symm),r.hB,r.keepSet hi rfl _ _,fun j o' hj hk=>by
  rcases key j o' hj with⟨hl,rfl|⟨hne,hj⟩⟩|⟨rfl,rfl⟩
  ·cases hk
  ·rw[he j hl];exact r.out j o' hj hk
  ·rw[zu];exact r.out i _ hi rfl,fun j o' hj=> ?_,fun j k o1 o2 hj hk hne k1 k2=> ?_⟩
 ·rw[hlen];rcases key j o' hj with⟨hl,rfl|⟨hne,hj⟩⟩|⟨rfl,rfl⟩
  ·trivial
  ·rw[he j hl];refine(r.obj j o' hj).moved he (by omega) (by rw[Rel.store.size_setCells_w];exact zuL _) (fun hk k v hv=> ?_) (fun _ _=>World.frozen?_setCells _ _ _ _ _) (fun hk=> ?_)
   ·rw[World.cell?_setCells_out _ _ _ _ _ (fun hb _=> ?_)]
    ·exact hv
    ·exfalso;rcases hk with hk|hk
     ·exact r.inj j i o' _ hj hi hne hk rfl hb
     ·simp only at hb;omega
   ·exact Zf (r.inj j i o' _ hj hi hne (by cases o'<;>first|rfl|cases hk) rfl) _ _ _
  ·rw[zu];refine⟨b1,by rw[Rel.store.size_setCells_w];exact b2,b3,fun k hk=> ?_,fun k v hv=> ?_,?_,fun v hv=> ?_⟩
   ·have:=World.there_setCells b4 (ρ i).blk ((ρ i).base+o*(ρ i).sz+m*(ρ i).sz) (new.map (c0 ρ)) (o*(ρ i).sz+k) (by simp only at hk;omega);rw[←zwd] at this;exact this
   ·have hv':((List.map (c0 ρ) ((vs.drop (o*(ρ i).sz)).take (m*(ρ i).sz)++new)))[k]? =some v:=by
     rw[←q9 he]
     ·exact hv
     ·intro u hu;rcases zuY.1 hu with hu|hu
      ·exact b7 u (zwn (zvM hu))
      ·exact hw u hu
    rw[zvp] at hv';rcases zwk k (m*(ρ i).sz) with hk|hk
    ·rw[zuK (by rw[zu9,hclen];exact hk)] at hv';rw[World.cell?_setCells_out _ _ _ _ _ (fun _ _=>by simp only;omega)];rw[zwV,List.map_drop,List.getElem?_take_of_lt hk,zvH] at hv';have:=b5 _ v hv';rw[←zwd] at this;exact this
    ·rw[zuN (by rw[zu9,hclen];exact hk),zu9,hclen] at hv';have hlt:k-m*(ρ i).sz<(new.map (c0 ρ)).length:=(zuJ.1 hv').1;have:=World.cell?_setCells_in (ρ i).blk (new.map (c0 ρ)) ((ρ i).base+o*(ρ i).sz+m*(ρ i).sz) w hsome (k-m*(ρ i).sz) hlt;rw[show(ρ i).base+o*(ρ i).sz+m*(ρ i).sz+(k-m*(ρ i).sz)=(ρ i).base+o*(ρ i).sz+k by omega] at this;simp only;rw[this,←hv',zuV hlt]
   ·rw[zuM,hclen];simp only;omega
   ·rcases zuY.1 hv with hv|hv
    ·exact Jl he (by omega) (b7 v (zwn (zvM hv)))
    ·exact Jl he (by omega) (hw v hv)
 ·rcases key j o1 hj with⟨l1,rfl|⟨n1,a1⟩⟩|⟨rfl,rfl⟩
  ·cases k1
  ·rcases key k o2 hk with⟨l2,rfl|⟨n2,a2⟩⟩|⟨rfl,rfl⟩
   ·cases k2
   ·rw[he j l1,he k l2];exact r.inj j k o1 o2 a1 a2 hne k1 k2
   ·rw[he j l1,zu];exact r.inj j i o1 _ a1 hi n1 k1 rfl
  ·rcases key k o2 hk with⟨l2,rfl|⟨n2,a2⟩⟩|⟨rfl,rfl⟩
   ·cases k2
   ·rw[he k l2,zu];exact r.inj i k _ o2 hi a2 (Ne.symm n2) rfl k2
   ·exact absurd rfl hne
theorem Rel.newBlk{ρ:Nat→Ph}{h:LH}{w w':World}(r:Rel P w0 ρ h w)(p:Ph)(o:LO)(hp:p.blk=w.heap.size)(hB:Below w0.B w w')(hdr:w0.dr=true→w.drawn≤w'.drawn)(hs:w'.heap.size=w.heap.size+1)(hold:∀k,k<w.heap.size→w'.heap[k]? =w.heap[k]?)
 (ho:Q7 P w0.B (upd ρ h.length p) (h.length+1) p w' o):Rel P w0 (upd ρ h.length p) (h++[o]) w':=by
 have he:=yx ρ h.length p;have hcell:∀(a:Addr),a.block<w.heap.size→w'.cell? a=w.cell? a:=fun a ha=>by unfold World.cell?;rw[hold _ ha]
 have hfr:∀(a:Addr),a.block<w.heap.size→w'.frozen? a=w.frozen? a:=fun a ha=>by unfold World.frozen?;rw[hold _ ha]
 have old:∀(i:Nat) (o':LO),h[i]? =some o'→o'.holds=true→(ρ i).blk<w.heap.size:=by intro i o' hi hk;have:=r.obj i o' hi;cases o'<;>simp[LO.holds] at hk<;>exact this.2.1
 have key:∀(i:Nat) (o':LO),(h++[o])[i]? =some o'→(i<h.length∧h[i]? =some o')∨(i=h.length∧o'=o):=by
  intro i o' hi;rcases zwk i h.length with hlt|hge
  ·rw[zuK hlt] at hi;exact .inl ⟨hlt,hi⟩
  ·have hlt:=yI hi;rw[zuM,zuS] at hlt;obtain rfl:i=h.length:=by omega
   rw[zuN (zuL _),zvG] at hi;exact .inr ⟨rfl,(zuG hi).symm⟩
 refine⟨r.below.tr hB hdr,r.hB,fun k hk=> ?_,fun i o' hi hk=> ?_,fun i o' hi=> ?_,fun i j o1 o2 hi hj hne k1 k2=> ?_⟩
 ·obtain⟨k1,k2⟩:=r.keep k hk;exact⟨k1,by rw[hold k (zvB k1 r.below.size)];exact k2⟩
 ·rcases key i o' hi with⟨hlt,hi⟩|⟨rfl,rfl⟩
  ·rw[he i hlt];exact r.out i o' hi hk
  ·rw[zu,hp];intro hF;have:=(r.keep _ hF).1;have:=r.below.size;omega
 ·rw[zuM,zuS];rcases key i o' hi with⟨hlt,hi⟩|⟨rfl,rfl⟩
  ·rw[he i hlt];have hlt':(o'.holds=true∨(ρ i).blk<w0.B)→(ρ i).blk<w.heap.size:=by
    rintro(hk|hk)
    ·exact old i o' hi hk
    ·have:=r.size;omega
   exact(r.obj i o' hi).moved he (by omega) (by omega) (fun hk j v hv=>by rw[hcell _ (hlt' hk)];exact hv) (fun hk j=>hfr _ (hlt' (.inl hk))) (fun hk=>hold _ (hlt' (.inl (by cases o'<;>first|rfl|cases hk))))
  ·rw[zu];exact ho
 ·rcases key i o1 hi with⟨l1,a⟩|⟨rfl,rfl⟩<;>rcases key j o2 hj with⟨l2,b⟩|⟨rfl,rfl⟩
  ·rw[he i l1,he j l2];exact r.inj i j o1 o2 a b hne k1 k2
  ·rw[he i l1,zu,hp];exact Nat.ne_of_lt (old i o1 a k1)
  ·rw[he j l2,zu,hp];exact Nat.ne_of_gt (old j o2 b k2)
  ·exact absurd rfl hne
theorem Rel.setBlk{ρ:Nat→Ph}{h:LH}{w w':World}(r:Rel P w0 ρ h w){i:Nat}{o o':LO}(hi:h[i]? =some o)(hh:o.holds=true)(hB:Below w0.B w w')(hdr:w0.dr=true→w.drawn≤w'.drawn)(hs:w'.heap.size=w.heap.size)(hold:∀k,k≠(ρ i).blk→w'.heap[k]? =w.heap[k]?)
 (hlow:w0.B≤(ρ i).blk) (hh':o'.holds=true) (ho:Q7 P w0.B ρ h.length (ρ i) w' o'):Rel P w0 ρ (h.set i o') w':=by
 have hcell:∀(a:Addr),a.block≠(ρ i).blk→w'.cell? a=w.cell? a:=fun a ha=>by unfold World.cell?;rw[hold _ ha]
 have hfr:∀(a:Addr),a.block≠(ρ i).blk→w'.frozen? a=w.frozen? a:=fun a ha=>by unfold World.frozen?;rw[hold _ ha]
 have key:∀(j:Nat) (x:LO),(h.set i o')[j]? =some x→(j=i∧x=o')∨(j≠i∧h[j]? =some x):=by
  intro j x hj;by_cases e:j=i
  ·subst e;rw[zu1 (yI hi)] at hj;exact .inl ⟨rfl,(zuG hj).symm⟩
  ·rw[zuR (Ne.symm e)] at hj;exact .inr ⟨e,hj⟩
 refine⟨r.below.tr hB hdr,r.hB,fun k hk=> ?_,fun j x hj hk=> ?_,fun j x hj=> ?_,fun j k o1 o2 hj hk hne k1 k2=> ?_⟩
 ·obtain⟨k1,k2⟩:=r.keep k hk;refine⟨k1,?_⟩;rw[hold k (fun e=>r.out i o hi hh (by rw[←e];exact hk))];exact k2
 ·rcases key j x hj with⟨rfl,rfl⟩|⟨e,hj⟩
  ·exact r.out j o hi hh
  ·exact r.out j x hj hk
 ·rw[zvi];rcases key j x hj with⟨rfl,rfl⟩|⟨e,hj⟩
  ·exact ho
  ·have hne:(x.holds=true∨(ρ j).blk<w0.B)→(ρ j).blk≠(ρ i).blk:=by
    rintro(hk|hk)
    ·exact r.inj j i x o hj hi e hk hh
    ·omega
   exact(r.obj j x hj).moved (Ext.refl _ _) (zuL _) (by omega) (fun hk n v hv=>by rw[hcell _ (hne hk)];exact hv) (fun hk n=>hfr _ (hne (.inl hk))) (fun hk=>hold _ (hne (.inl (by cases x<;>first|rfl|cases hk))))
 ·rcases key j o1 hj with⟨rfl,rfl⟩|⟨e1,h1⟩<;>rcases key k o2 hk with⟨rfl,rfl⟩|⟨e2,h2⟩
  ·exact absurd rfl hne
  ·exact r.inj j k o o2 hi h2 hne hh k2
  ·exact r.inj j k o1 o h1 hi hne k1 hh
  ·exact r.inj j k o1 o2 h1 h2 hne k1 k2
theorem Rel.rebase{ρ:Nat→Ph}{h:LH}{w:World}(r:Rel P w0 ρ h w)(F:Nat→Prop)(hF:∀k,F k→k<w.heap.size)(ho:∀i o,h[i]? =some o→o.holds=true→¬F (ρ i).blk):Rel P ⟨w,w0.B,F,w0.dr⟩ ρ h w:=
 ⟨BelD.refl _ _ _,r.size,fun k hk=>⟨hF k hk,rfl⟩,ho,r.obj,r.inj⟩
theorem Rel.unbase{ρ ρ':Nat→Ph}{h h':LH}{w w':World}{F:Nat→Prop}(r:Rel P w0 ρ h w)(hF:∀k,w0.F k→F k)(r':Rel P ⟨w,w0.B,F,w0.dr⟩ ρ' h' w'):Rel P w0 ρ' h' w':=
 ⟨r.below.trans r'.below,r.hB,fun k hk=>⟨(r.keep k hk).1,by rw[(r'.keep k (hF k hk)).2];exact(r.keep k hk).2⟩,fun i o hi hh hk=>r'.out i o hi hh (hF _ hk),r'.obj,r'.inj⟩
theorem Rel.add{ρ:Nat→Ph}{h:LH}{w:World}(r:Rel P w0 ρ h w)(o:LO)(ho:Q7 P w0.B ρ (h.length+1) (ρ h.length) w o)(hf:o.holds=true→¬w0.F (ρ h.length).blk)
 (hd:o.holds=true→∀i o',h[i]? =some o'→o'.holds=true→(ρ i).blk≠(ρ h.length).blk):Rel P w0 ρ (h++[o]) w:=by
 have key:∀(i:Nat) (o':LO),(h++[o])[i]? =some o'→(i<h.length∧h[i]? =some o')∨(i=h.length∧o'=o):=by
  intro i o' hi;rcases zwk i h.length with hlt|hge
  ·rw[zuK hlt] at hi;exact .inl ⟨hlt,hi⟩
  ·have hlt:=yI hi;rw[zuM,zuS] at hlt;obtain rfl:i=h.length:=by omega
   rw[zuN (zuL _),zvG] at hi;exact .inr ⟨rfl,(zuG hi).symm⟩
 refine⟨r.below,r.hB,r.keep,fun i o' hi hk=> ?_,fun i o' hi=> ?_,fun i j o1 o2 hi hj hne k1 k2=> ?_⟩
 ·rcases key i o' hi with⟨_,a⟩|⟨rfl,rfl⟩
  ·exact r.out i o' a hk
  ·exact hf hk
 ·rw[zuM,zuS];rcases key i o' hi with⟨_,a⟩|⟨rfl,rfl⟩
  ·exact(r.obj i o' a).moved (Ext.refl _ _) (by omega) (zuL _) (fun _ _ _ hv=>hv) (fun _ _=>rfl) (fun _=>rfl)
  ·exact ho
 ·rcases key i o1 hi with⟨_,a⟩|⟨rfl,rfl⟩<;>rcases key j o2 hj with⟨_,b⟩|⟨rfl,rfl⟩
  ·exact r.inj i j o1 o2 a b hne k1 k2
  ·exact hd k2 i o1 a k1
  ·exact Ne.symm (hd k1 j o2 b k2)
  ·exact absurd rfl hne
end
section
variable {P:Program} {w0:Base}
def Res(P:Program)(w0:Base)(ρ:Nat→Ph)(h:LH)(w:World)(s:Sem Next)(v:FV)(h':LH):Prop:=
 ∃r ρ' w',s.run P w= .ok r w'∧(r= .value (cv ρ' v)∨(r= .skip∧cv ρ' v=undef))∧Rel P w0 ρ' h' w'∧Ext h.length ρ ρ'∧h.length≤h'.length∧wfV ρ' h'.length v
section
variable {ρ:Nat→Ph} {h:LH} {w:World} {N:Nat} {fr:Fr} {a:Act}
theorem Res.same{s:Sem Next}{v:FV}(R:Rel P w0 ρ h w)(hs:s.run P w= .ok (.value (cv ρ v)) w)(hv:wfV ρ h.length v):Res P w0 ρ h w s v h:=
 ⟨_,ρ,w,hs,.inl rfl,R,Ext.refl _ _,zuL _,hv⟩
theorem qT{s:Sem Value}{x:Value}{w w':World}(hs:s.run P w= .ok x w'):(do pure (Next.value (←s)):Sem Next).run P w= .ok (.value x) w':=by simp[hs]
theorem Res.val{s:Sem Value}{v:FV}(R:Rel P w0 ρ h w)(hs:s.run P w= .ok (cv ρ v) w)(hv:wfV ρ h.length v):Res P w0 ρ h w (do pure (Next.value (←s))) v h:=
 Res.same R (qT hs) hv
theorem zaA{v:FV}{l:List SV}{n:Nat}(hf:jI v=some l)(hv:wfV ρ n v):(cv ρ v).cells=(l.map (c0 ρ)).toArray:=by
 cases v with
 |s v=>
  simp only[jI,zuE] at hf;subst hf;have:=ziV (ρ:=ρ) hv;simp only[cv,zu2,zv9];generalize c0 ρ v=u at *
  cases u<;>first
   |rfl
   |cases this
 |agg l'=>
  simp only[jI,zuE] at hf;subst hf;rfl
 |tup l'=>cases hf
theorem zbZ{v:FV}{l:List SV}{n:Nat}(hf:jI v=some l)(hv:wfV ρ n v):∀u∈l,wf ρ n u:=by
 cases v with
 |s v=>
  simp only[jI,zuE] at hf;subst hf;intro u hu;rw[zvm.1 hu];exact hv
 |agg l'=>
  simp only[jI,zuE] at hf;subst hf;exact hv
 |tup l'=>cases hf
theorem zgA{l:List SV}{n:Nat}(hl:∀u∈l,wf ρ n u):∀u∈l.map (c0 ρ),u.oneCell'=true:=by intro u hu;obtain⟨x,hx,rfl⟩:=zvV.1 hu;exact ziV (hl x hx)
theorem qM{b o:Nat}{cs:List Value}(hr:w.rangeAt b o cs)(k n:Nat):w.rangeAt b (o+k) ((cs.drop k).take n):=by
 intro j v hv;rw[zvh] at hv;split at hv
 ·rw[zvH] at hv;rw[zwd];exact hr _ v hv
 ·cases hv
theorem J6(f:SV→Value)(vs:List SV)(k n:Nat):((vs.map f).drop k).take n=((vs.drop k).take n).map f:=by rw[←List.map_drop,←zwV]
theorem Rel.cells(R:Rel P w0 ρ h w){i t:Nat}{vs:List SV}(hi:cellsOf h i=some (t,vs)):
 w.rangeAt (ρ i).blk (ρ i).base (vs.map (c0 ρ))∧(ρ i).sz=P.cellsOf t∧(∀v∈vs,wf ρ h.length v)∧i<h.length:=by
 unfold cellsOf at hi;split at hi
 ·rename_i t' vs' hh;simp only[zuE,zuH] at hi;obtain⟨rfl,rfl⟩:=hi;obtain⟨h1,h2,h3,h4,h5,h6,h7⟩:=R.obj i _ hh;exact⟨h5,h3,h7,yI hh⟩
 ·rename_i t' vs' hh;simp only[zuE,zuH] at hi;obtain⟨rfl,rfl⟩:=hi;obtain⟨h1,h2,h3,h4⟩:=R.obj i _ hh;exact⟨h3,h2,h4,yI hh⟩
 ·cases hi
theorem QO{t n:Nat}(ht:QX P t=some (true,n)):(∃d,P.underlying t=some d∧d.isRow=true)∧(P.info? t).map (·.size)=some n:=by
 unfold QX at ht;split at ht
 ·rename_i fs i hu hi;simp only[zuE,zuH,true_and] at ht;exact⟨⟨_,hu,rfl⟩,by rw[hi];simp[ht]⟩
 ·rename_i hu hi;simp only[zuE,zuH,true_and] at ht;exact⟨⟨_,hu,rfl⟩,by rw[hi];simp[ht]⟩
 ·simp at ht
 ·cases ht
theorem Ji{t n:Nat}(ht:QX P t=some (false,n)):(∃d,P.underlying t=some d∧d.isRow=false)∧(P.info? t).map (·.size)=some n:=by
 unfold QX at ht;split at ht
 ·simp at ht
 ·simp at ht
 ·rename_i d i h1 h2 hu hi;simp only[zuE,zuH,true_and] at ht;refine⟨⟨_,hu,?_⟩,by rw[hi];simp[ht]⟩
  cases d<;>first
   |rfl
   |(exfalso;first|exact h1 _ rfl|exact h2 _ _ rfl|exact h1 _ _ rfl|exact h2 _ rfl)
 ·cases ht
theorem Jz{t:Nat}{d:TypeDesc}(hu:P.underlying t=some d)(hd:d.isRow=false):(isAgg t).run P w= .ok false w:=by
 unfold isAgg;rw[zu5,run_underlying hu w]
 cases d<;>first
  |rfl
  |cases hd
theorem zhF(R:Rel P w0 ρ h w)(hF:FrR ρ h.length N fr a){t:TypeId}{x:Operand}{y:OD}{g:Bool}{n:Nat}(ht:QX P t=some (g,n))(hx:zi x=some y){v:FV}{h':LH}
 (he:opE fr h (.load g n y)=some (v,h')):(Instr.loadAt t (a.eval x)).run P w= .ok (cv ρ v) w∧wfV ρ h.length v∧h'=h:=by
 simp only[opE] at he;split at he
 ·rename_i i o hy;obtain⟨e1,e2⟩:=zh hF hx hy;split at he
  ·rename_i t' vs hc;obtain⟨q1,q2,q3,q4⟩:=R.cells hc;cases g with
   |true=>
    rw[zuO rfl] at he;split at he
    ·rename_i hle;simp only[zuE,zuH] at he;obtain⟨rfl,rfl⟩:=he;obtain⟨⟨d,hu,hd⟩,hn⟩:=QO ht;refine⟨?_,(fun u hu=>q3 u (zwn (zvM hu))),rfl⟩;rw[e1];simp only[c0,cv];refine run_loadAt_mid w _ _ t (((vs.drop o).take n).map (c0 ρ)) d ?_ hu hd ?_
     ·rw[←J6];exact qM q1 o n
     ·rw[hn,zu9,zu0,zvQ];congr 1;omega
    ·cases he
   |false=>
    rw[zuQ (by decide)] at he;split at he
    ·rename_i u hu';simp only[zuE,zuH] at he;obtain⟨rfl,rfl⟩:=he;obtain⟨⟨d,hu,hd⟩,hn⟩:=Ji ht;refine⟨?_,q3 u (zvE hu'),rfl⟩;rw[e1];have hcell:=q1 o (c0 ρ u) (by rw[zvC,hu'];rfl);simp only[Instr.loadAt,Instr.sureAddr,c0,loadVar,zu5,zvg,zuT,Jz hu hd,zva,if_false,run_load,hcell,cv]
    ·cases he
  ·cases he
 ·cases he
theorem zqI(R:Rel P w0 ρ h w)(hF:FrR ρ h.length N fr a){t:TypeId}{x:Operand}{y:OD}{g:Bool}{n:Nat}(ht:QX P t=some (g,n))(hx:zi x=some y){v:FV}{h':LH}
 (he:opE fr h (.load g n y)=some (v,h')):Res P w0 ρ h w (do pure (Next.value (←Instr.loadAt t (a.eval x)))) v h':=by
 obtain⟨q1,q2,rfl⟩:=zhF R hF ht hx he;exact Res.val R q1 q2
theorem zbQ{t:TypeId}{b o:Nat}{u:Value}(ht:w.there b o u.cells.size)(hn:(P.info? t).map (·.size)=some u.cells.size)(h1:∀v∈u.cells.toList,v.oneCell'=true):
 (storeVar t ⟨b,o,none⟩ u).run P w= .ok () (w.setCells b o u.cells.toList):=by
 have:=run_storeCells_cells (P:=P) b o u.cells.toList 0 w (fun j hj=>by simpa using(ht j (by simpa using hj)).1) (fun j hj=>by simpa using(ht j (by simpa using hj)).2) h1;cases hq:P.info? t with
 |none=>simp[hq] at hn
 |some i=>
  have hs:u.cells.size=i.size:=by simp[hq] at hn;omega
  simp only[zwa] at this;simp[storeVar,sizeOf,typeInfo,hq,hs,this]
theorem zoP(R:Rel P w0 ρ h w)(hF:FrR ρ h.length N fr a){t:TypeId}{x z:Operand}{y y':OD}{g:Bool}{n:Nat}(ht:QX P t=some (g,n))(hx:zi x=some y)(hz:zi z=some y'){v:FV}{h':LH}
 (he:opE fr h (.store n y y')=some (v,h')):Res P w0 ρ h w (do Instr.storeAt t (a.eval x) (a.eval z);pure Next.skip) v h':=by
 simp only[opE] at he;split at he
 ·rename_i i o l hy hb;obtain⟨e1,e2⟩:=zh hF hx hy;obtain⟨fv,hfv,hl⟩:=zuU.1 hb;obtain⟨e3,e4⟩:=ja hF hz hfv;split at he
  ·rename_i t' vs hi;split at he
   ·rename_i hn;split at he
    ·rename_i hle;simp only[zuE,zuH] at he;obtain⟨rfl,rfl⟩:=he;have hwl:=zbZ hl e4;have hcl:=zaA hl e4;obtain⟨b1,b2,b3,b4,b5,b6,b7⟩:=R.obj i _ hi;have hsize:(P.info? t).map (·.size)=some n:=by
      cases g
      ·exact(Ji ht).2
      ·exact(QO ht).2
     refine⟨.skip,ρ,_,?_,.inr ⟨rfl,rfl⟩,R.store hi (l:=l) (o:=o) (by omega) hwl,Ext.refl _ _,by rw[zvi];exact zuL _,fun v hv=>by cases hv⟩;have hlen:(cv ρ fv).cells.size=n:=by rw[hcl];simp[hn]
     have hrun:=zbQ (P:=P) (w:=w) (t:=t) (b:=(ρ i).blk) (o:=(ρ i).base+o) (u:=cv ρ fv) (fun j hj=>by
      rw[zwd];exact b4 (o+j) (by omega)) (by rw[hlen];exact hsize) (by rw[hcl];exact zgA hwl)
     rw[e1,e3];simp only[Instr.storeAt,Instr.sureAddr,c0,zu5,zvg,zuT,hrun];rw[hcl]
    ·cases he
   ·cases he
  ·cases he
 ·cases he
theorem zlo{t n:Nat}{g:Bool}(ht:QX P t=some (g,n)):P.cellsOf t=n:=by
 unfold Program.cellsOf;cases g
 ·rw[(Ji ht).2];rfl
 ·rw[(QO ht).2];rfl
theorem zjy(R:Rel P w0 ρ h w){t n:Nat}{g:Bool}(ht:QX P t=some (g,n)){fv:FV}{l:List SV}(hv:wfV ρ h.length fv)(hl:jI fv=some l)(hn:l.length=n){s:Sem Value}
 (hs:s.run P w=(newVar t (cv ρ fv)>>=fun x=>(pure (.pointer (some x)):Sem Value)).run P w):
 Res P w0 ρ h w (do pure (Next.value (←s))) (.s (.ptr h.length 0)) (h++[.own t l]):=by
 have hcl:=zaA hl hv;have hP:=zlo ht;refine⟨_,upd ρ h.length ⟨w.heap.size,0,P.cellsOf t,1,undef⟩,w.alloc (.cells (cv ρ fv).cells t),qT ?_,.inl rfl,?_,yx _ _ _,by simp,by simp[wfV,wf]⟩
 ·rw[hs];simp[newVar,newRow,cv,c0,zu]
 ·refine R.alloc t _ l 1 ?_ ?_ ?_ (zbZ hl hv)
  ·rw[hcl];simp;omega
  ·omega
  ·intro j v hj;rw[hcl];simp[hj]
theorem zlK(l:List SV):∀(k off:Nat) (cs:List SV),((l.map (c0 ρ)).zipIdx k).foldl (fun(xs:Array Value) (p:Value×Nat)=>xs.setIfInBounds (off+p.2) p.1) (cs.map (c0 ρ)).toArray=((qr cs (off+k) l).map (c0 ρ)).toArray:=by
 induction l with
 |nil=>intro k off cs;rfl
 |cons v r ih=>
  intro k off cs;simp only[zu2,List.zipIdx_cons,zwv,qr];rw[show((cs.map (c0 ρ)).toArray.setIfInBounds (off+k) (c0 ρ v))=((cs.set (off+k) v).map (c0 ρ)).toArray by simp[List.map_set]];have:=ih (k+1) off (cs.set (off+k) v);rw[this,zwd]
theorem zf5(hF:FrR ρ h.length N fr a)(place:Nat→Option (Nat×Nat)):∀(parts:List (Nat×Operand)) (ps:List (Nat×Nat×OD)) (cs out:List SV),qt place parts=some ps→ZK fr cs ps=some out→(∀v∈cs,wf ρ h.length v)→
 Instr.fill place (cs.map (c0 ρ)).toArray (parts.map fun p=>(p.1,a.eval p.2))=some (out.map (c0 ρ)).toArray∧(∀v∈out,wf ρ h.length v)∧out.length=cs.length
 |[],ps,cs,out,hc,he,hw=>by
  simp only[qt,zuE] at hc;subst hc;simp only[ZK,zuE] at he;subst he;exact⟨rfl,hw,rfl⟩
 |(i,x)::r,ps,cs,out,hc,he,hw=>by
  simp only[qt] at hc;split at hc
  ·rename_i o n y hp hx;obtain⟨ps',hps,rfl⟩:=zuI.1 hc;simp only[ZK] at he;split at he
   ·rename_i l hl;split at he
    ·rename_i hn;split at he
     ·rename_i hle;obtain⟨fv,hfv,hfc⟩:=zuU.1 hl;obtain⟨e1,e2⟩:=ja hF hx hfv;have hcl:=zaA hfc e2;have hwl:=zbZ hfc e2;have hlen:cs.length=(qr cs o l).length:=(Ql l cs o).symm;obtain⟨q1,q2,q3⟩:=zf5 hF place r ps' (qr cs o l) out hps he (fun v hv=>(zir (by omega) hv).elim (hw v) (hwl v));refine⟨?_,q2,by omega⟩;simp only[zu2,Instr.fill,hp,e1];rw[hcl];have hsz:((l.map (c0 ρ)).toArray).size=n:=by simp[hn]
      rw[hsz];have hcond:¬((decide (n≠n)||decide (o+n >((cs.map (c0 ρ)).toArray).size))=true):=by simp;omega
      rw[zuQ hcond];have hf:((l.map (c0 ρ)).toArray.zipIdx.foldl (fun cs (p:Value×Nat)=>cs.setIfInBounds (o+p.2) p.1) (cs.map (c0 ρ)).toArray)=((qr cs o l).map (c0 ρ)).toArray:=by have:=zlK (ρ:=ρ) l 0 o cs;rw[zwa] at this;rw[←this,←zxG];simp
      have hf':=hf;rw[hf'];exact q1
     ·cases he
    ·cases he
   ·cases he
  ·cases hc
theorem ZD{t:TypeId}{z:List SV}(hz:Ya P t=some z)(ρ:Nat→Ph):∃i u,P.info? t=some i∧i.zero=some u∧u.cells=(z.map (c0 ρ)).toArray∧∀n,∀v∈z,wf ρ n v:=by
 unfold Ya at hz;split at hz
 ·rename_i i hi;obtain⟨u,hu,hl⟩:=zuU.1 hz;exact⟨i,u,hi,hu,by rw[zfE hl],fun n=>zfF hl ρ n⟩
 ·cases hz
theorem yU{t:TypeId}{i:TypeInfo}{u:Value}(hi:P.info? t=some i)(hu:i.zero=some u):(zeroValue t).run P w= .ok u w:=by simp[zeroValue,typeInfo,hi,hu]
theorem zP{t:TypeId}{i:TypeInfo}(hi:P.info? t=some i):(sizeOf t).run P w= .ok i.size w:=by simp[sizeOf,typeInfo,hi]
theorem zl8(z:List Value)(hz:0<z.length):∀n,(List.range (n*z.length)).map (fun i=>z.toArray[i%z.toArray.size]!)=(List.replicate n z).flatten:=by
 intro n
 induction n with
 |zero=>simp
 |succ n ih=>
  rw[zwP,List.range_add,zvp,ih,List.replicate_succ',List.flatten_append];congr 1;simp only[zxb,List.flatten_nil,zvl,zwN];apply List.ext_getElem
  ·simp
  ·intro i h1 h2;simp only[zu9,zxQ] at h1;simp only[zxw,List.getElem_range,Function.comp,zwe];rw[Nat.mul_comm n,Nat.mul_add_mod,zxZ h1];simp[h1]
theorem zrb(f:SV→Value)(n:Nat)(z:List SV):(rep n z).map f=(List.replicate n (z.map f)).flatten:=by
 unfold rep
 induction n with
 |zero=>rfl
 |succ n ih=>rw[zxF,zxb,zvp,ih,zxF,zxb]
theorem ZW(n:Nat)(z:List SV):(rep n z).length=n*z.length:=by
 unfold rep
 induction n with
 |zero=>simp
 |succ n ih=>rw[zxF,zxb,zuM,ih,zwP,zx1]
theorem zjP{n m:Nat}{z:List SV}(hz:∀v∈z,wf ρ m v):∀v∈rep n z,wf ρ m v:=by intro v hv;unfold rep at hv;obtain⟨l,hl,hm⟩:=zxx.1 hv;obtain⟨_,rfl⟩:=List.mem_replicate.1 hl;exact hz v hm
theorem Qw{z:List SV}(hz:0<z.length)(n:Nat):
 (Array.range (n*z.length)).map (fun i=>((z.map (c0 ρ)).toArray)[i%((z.map (c0 ρ)).toArray).size]!)=((rep n z).map (c0 ρ)).toArray:=by
 rw[zrb];have:=zl8 (z.map (c0 ρ)) (by simpa using hz) n;rw[zu9] at this;rw[←this];apply zxl;simp
theorem zm7(R:Rel P w0 ρ h w)(hF:FrR ρ h.length N fr a){t:TypeId}{parts:Array (Nat×Operand)}{z:List SV}{pl:List (Nat×Nat)}{ps:List (Nat×Nat×OD)}(hz:Ya P t=some z)(hp:zd4 P t=some pl)
 (hc:qt (pl.toArray[·]?) parts.toList=some ps) {v:FV} {h':LH} (he:opE fr h (.build z ps)=some (v,h')):
 Res P w0 ρ h w (do pure (Next.value (←Instr.build t (parts.map fun p=>(p.1,a.eval p.2))))) v h':=by
 simp only[opE] at he;obtain⟨out,ho,hq⟩:=zuI.1 he;obtain⟨rfl,rfl⟩:=zuZ hq;obtain⟨i,u,hi,hu,hcell,hwf⟩:=ZD hz ρ;obtain⟨q1,q2,q3⟩:=zf5 hF _ parts.toList ps z out hc ho (hwf _);refine Res.val R ?_ q2;refine run_build w t _ _ ?_;unfold zd4 at hp;split at hp
 ·rename_i fields hd;unfold Program.built;simp only[hi,hd,hu,hp,hcell];rw[←q1];simp
 ·cases hp
theorem zsK(R:Rel P w0 ρ h w)(hF:FrR ρ h.length N fr a){t e:TypeId}{n:Nat}{parts:Array (Nat×Operand)}{i:TypeInfo}{z:List SV}{ps:List (Nat×Nat×OD)}(ht:P.underlying t=some (.slice e))(hi:P.info? e=some i)(hz:Ya P e=some z)
 (hle:n*i.size≤16777216) (h0:0<i.size) (hzl:z.length=i.size) (hc:qt (fun j=>some (j*i.size,i.size)) parts.toList=some ps) {v:FV} {h':LH} (he:opE fr h (.bsl e n z ps)=some (v,h')):
 Res P w0 ρ h w (do pure (Next.value (←Instr.buildSlice t n (parts.map fun p=>(p.1,a.eval p.2))))) v h':=by
 simp only[opE] at he;obtain⟨out,ho,hq⟩:=zuI.1 he;obtain⟨rfl,rfl⟩:=zuZ hq;obtain⟨i',u,hi',hu,hcell,hwf⟩:=ZD hz ρ;rw[hi] at hi';obtain rfl:=zuG hi';obtain⟨q1,q2,q3⟩:=zf5 hF _ parts.toList ps (rep n z) out hc ho (zjP (hwf _));rw[ZW] at q3;have hP:P.cellsOf e=i.size:=by unfold Program.cellsOf;rw[hi];rfl
 refine⟨_,upd ρ h.length ⟨w.heap.size,0,P.cellsOf e,n,undef⟩,w.alloc (.cells (out.map (c0 ρ)).toArray e),qT ?_,.inl rfl,?_,yx _ _ _,by simp,?_⟩
 ·have hsz:(sizeOf e).run P w= .ok i.size w:=zP hi;have hzv:(zeroValue e).run P w= .ok u w:=yU hi hu;have hza:=Qw (ρ:=ρ) (z:=z) (by omega) n;rw[hzl] at hza;have hfill:Instr.fill (fun j=>some (j*i.size,i.size)) ((rep n z).map (c0 ρ)).toArray (parts.map fun p=>(p.1,a.eval p.2)).toList=some (out.map (c0 ρ)).toArray:=by
   rw[←q1];simp
  simp only[Instr.buildSlice,zu5,run_underlying ht,zuT,hsz];have hn:¬(2^24<n*i.size):=by omega
  by_cases c:n*i.size=0
  ·have hn0:n=0:=by
    rcases Nat.mul_eq_zero.1 c with h|h
    ·exact h
    ·omega
   subst hn0;simp only[gt_iff_lt,hn,if_false,zvg,zuT,zvP,if_true];simp only[rep,List.replicate_zero,List.flatten_nil,zv9] at hfill;rw[zxT] at hfill;simp[hfill,newRow,cv,c0,adr,zu,Array.range]
  ·simp only[gt_iff_lt,hn,if_false,zvg,zuT,c];simp only[zu5,hzv,zuT,zvg,hcell,hza,hfill];simp[newRow,cv,c0,adr,zu]
 ·refine R.alloc e _ out n ?_ ?_ ?_ q2
  ·rw[hP];simp[q3,hzl]
  ·rw[hP,q3,hzl];exact zuL _
  ·intro j v hj;simp[hj]
 ·simp only[wfV,wf,zu,zuM,zuS];omega
theorem Zm{op:BinOp}{t:TypeId}{x y:Operand}{u v:Value}(h1:u= .nilIface→v≠.nilIface)(h2:∀xs ys,u= .agg xs→v≠.agg ys):(eqGuard op t x y u v).run P w= .ok () w:=by
 unfold eqGuard;cases op<;>simp
 all_goals
  split
  ·exact absurd rfl (h1 rfl)
  ·exact absurd rfl (h2 _ _ rfl)
  ·rfl
theorem zmk{op:BinOp}{k:IntKind}{m n:Int}{r:SV}(hs:¬(op= .shl∨op= .shr))(he:zdA op k m n=some r)(t:TypeId):(binOp op t (.int k m) (.int k n)).run P w= .ok (c0 ρ r) w:=by
 cases op<;>simp only[zdA] at he<;>first
  |(obtain rfl:=zuG he;simp[binOp,Op.intArith,Op.intCmp,Op.intBits,c0];done)
  |(split at he<;>first|(cases he;done)|(obtain rfl:=zuG he;rename_i hne;simp[binOp,Op.intDiv,hne,c0];done))
  |(cases he;done)
  |(exfalso;simp at hs)
theorem zoF{op:BinOp}{k k':IntKind}{m n:Int}{r:SV}(he:zjX op k m n=some r)(t:TypeId):(binOp op t (.int k m) (.int k' n)).run P w= .ok (c0 ρ r) w:=by
 unfold zjX at he;split at he
 ·cases he
 ·rename_i hn
  cases op<;>simp only at he<;>first
   |(cases he;done)
   |(obtain rfl:=zuG he;simp[binOp,Op.shift,hn,c0])
theorem zmm{op:BinOp}{x y:ByteArray}{r:SV}(he:zej op x y=some r)(t:TypeId):(binOp op t (.string x) (.string y)).run P w= .ok (c0 ρ r) w:=by
 cases op<;>simp only[zej] at he<;>first
  |(obtain rfl:=zuG he;simp[binOp,Op.stringOp,c0];done)
  |(cases he;done)
  |(split at he
    ·rename_i hle;obtain rfl:=zuG he;have:¬(IntKind.i64.max<((x.size+y.size:Nat):Int)):=by
      have e:IntKind.i64.max=9223372036854775807:=by rfl
      omega
     simp only[binOp,Op.stringOp,gt_iff_lt,this,if_false,zvg,c0]
    ·cases he)
theorem zmh{op:BinOp}{x y u v:Nat}{r:SV}(he:zb7 op x y u v=some r)(t:TypeId):(binOp op t (.complex .f64 x y) (.complex .f64 u v)).run P w= .ok (c0 ρ r) w:=by
 cases op<;>simp only[zb7] at he<;>first
  |(cases he;done)
  |(obtain rfl:=zuG he;simp[binOp,Op.complexOp,Op.Complex.cmp,Op.floatCmp,asBool,c0];done)
  |(split at he
    ·rename_i p q hp hq;obtain rfl:=zuG he;simp[binOp,Op.complexOp,Op.Complex.arith,Op.floatArith,hp,hq,c0]
    ·cases he)
theorem zmj{op:BinOp}{x y:Nat}{r:SV}(he:zb9 op x y=some r)(t:TypeId):(binOp op t (.float .f64 x) (.float .f64 y)).run P w= .ok (c0 ρ r) w:=by
 cases op<;>simp only[zb9] at he<;>first
  |(cases he;done)
  |(obtain rfl:=zuG he;simp[binOp,Op.floatCmp,c0];done)
theorem zoC{op:BinOp}{u v r:SV}(he:zcW op u v=some r)(t:TypeId)(x y:Operand):(do eqGuard op t x y (c0 ρ u) (c0 ρ v);binOp op t (c0 ρ u) (c0 ρ v)).run P w= .ok (c0 ρ r) w:=by
 unfold zcW at he;split at he
 ·rename_i k m k' n;rw[zu5,Zm (by simp[c0]) (by simp[c0]),zuT];split at he
  ·exact zoF he t
  ·rename_i hs;split at he
   ·rename_i hk;subst hk;exact zmk hs he t
   ·cases he
 ·rw[zu5,Zm (by simp[c0]) (by simp[c0]),zuT];exact zmm he t
 ·rw[zu5,Zm (by simp[c0]) (by simp[c0]),zuT];exact zmh he t
 ·rw[zu5,Zm (by simp[c0]) (by simp[c0]),zuT];exact zmj he t
 ·cases he
theorem zp4{op:BinOp}{u v r:SV}(he:zcW op u v=some r)(n:Nat):wf ρ n r:=by
 have:(∃b,r= .bool b)∨(∃k m,r= .int k m)∨(∃s,r= .str s)∨(∃k a b,r= .cpl k a b):=by
  unfold zcW at he;split at he
  ·split at he
   ·unfold zjX at he;split at he
    ·cases he
    ·split at he<;>first|(cases he;done)|(obtain rfl:=zuG he;first|exact .inl ⟨_,rfl⟩|exact .inr (.inl ⟨_,_,rfl⟩)|exact .inr (.inr (.inl ⟨_,rfl⟩))|exact .inr (.inr (.inr ⟨_,_,_,rfl⟩)))
   ·split at he
    ·unfold zdA at he;split at he<;>first|(cases he;done)|(obtain rfl:=zuG he;first|exact .inl ⟨_,rfl⟩|exact .inr (.inl ⟨_,_,rfl⟩)|exact .inr (.inr (.inl ⟨_,rfl⟩))|exact .inr (.inr (.inr ⟨_,_,_,rfl⟩)))|(split at he<;>first|(cases he;done)|(obtain rfl:=zuG he;first|exact .inl ⟨_,rfl⟩|exact .inr (.inl ⟨_,_,rfl⟩)|exact .inr (.inr (.inl ⟨_,rfl⟩))|exact .inr (.inr (.inr ⟨_,_,_,rfl⟩))))
    ·cases he
  ·unfold zej at he;split at he<;>first|(cases he;done)|(obtain rfl:=zuG he;first|exact .inl ⟨_,rfl⟩|exact .inr (.inl ⟨_,_,rfl⟩)|exact .inr (.inr (.inl ⟨_,rfl⟩))|exact .inr (.inr (.inr ⟨_,_,_,rfl⟩)))|(split at he<;>first|(cases he;done)|(obtain rfl:=zuG he;first|exact .inl ⟨_,rfl⟩|exact .inr (.inl ⟨_,_,rfl⟩)|exact .inr (.inr (.inl ⟨_,rfl⟩))|exact .inr (.inr (.inr ⟨_,_,_,rfl⟩))))
  ·unfold zb7 at he;split at he<;>first|(cases he;done)|(obtain rfl:=zuG he;first|exact .inl ⟨_,rfl⟩|exact .inr (.inl ⟨_,_,rfl⟩)|exact .inr (.inr (.inl ⟨_,rfl⟩))|exact .inr (.inr (.inr ⟨_,_,_,rfl⟩)))|(split at he<;>first|(cases he;done)|(obtain rfl:=zuG he;first|exact .inl ⟨_,rfl⟩|exact .inr (.inl ⟨_,_,rfl⟩)|exact .inr (.inr (.inl ⟨_,rfl⟩))|exact .inr (.inr (.inr ⟨_,_,_,rfl⟩))))
  ·unfold zb9 at he;split at he<;>first|(cases he;done)|(obtain rfl:=zuG he;first|exact .inl ⟨_,rfl⟩|exact .inr (.inl ⟨_,_,rfl⟩)|exact .inr (.inr (.inl ⟨_,rfl⟩))|exact .inr (.inr (.inr ⟨_,_,_,rfl⟩)))
  ·cases he
 rcases this with⟨_,rfl⟩|⟨_,_,rfl⟩|⟨_,rfl⟩|⟨_,_,_,rfl⟩<;>trivial
theorem zmi{op:BinOp}{t:TypeId}{u v:Value}{b:Bool}(hop:op= .eql∨op= .neq)(hne:∀k a b,¬(u= .int k a∧∃k',v= .int k' b))(hs:∀s s',¬(u= .string s∧v= .string s'))(hf:∀k s k' s',¬(u= .float k s∧v= .float k' s'))
 (hc:∀k s r k' s' r',¬(u= .complex k s r∧v= .complex k' s' r')) (he:(Op.equal t u v).run P w= .ok b w):(binOp op t u v).run P w= .ok (.bool (if decide (op= .neq) then !b else b)) w:=by
 rcases hop with rfl|rfl
 ·have:binOp .eql t u v=(do pure (.bool (←Op.equal t u v))):=by
   unfold binOp
   split<;>first
    |rfl
    |(rename_i h;cases h;done)
    |(exfalso;first|exact hne _ _ _ ⟨rfl,_,rfl⟩|exact hs _ _ ⟨rfl,rfl⟩|exact hf _ _ _ _ ⟨rfl,rfl⟩|exact hc _ _ _ _ _ _ ⟨rfl,rfl⟩)
    |simp_all
  rw[this];simp[he]
 ·have:binOp .neq t u v=(do pure (.bool (!(←Op.equal t u v)))):=by
   unfold binOp
   split<;>first
    |rfl
    |(rename_i h;cases h;done)
    |(exfalso;first|exact hne _ _ _ ⟨rfl,_,rfl⟩|exact hs _ _ ⟨rfl,rfl⟩|exact hf _ _ _ _ ⟨rfl,rfl⟩|exact hc _ _ _ _ _ _ ⟨rfl,rfl⟩)
    |simp_all
  rw[this];simp[he]
theorem zqV(q b:Bool):cv ρ (Y9 q b)= .bool (if q then !b else b):=rfl
theorem zgJ{op:BinOp}{t:TypeId}{u v:Value}{b:Bool}(hop:op= .eql∨op= .neq)(hne:∀k a b,¬(u= .int k a∧∃k',v= .int k' b))(hs:∀s s',¬(u= .string s∧v= .string s'))(hf:∀k s k' s',¬(u= .float k s∧v= .float k' s'))
 (hc:∀k s r k' s' r',¬(u= .complex k s r∧v= .complex k' s' r')) (hi:u= .nilIface→v≠.nilIface) (hg:∀xs ys,u= .agg xs→v≠.agg ys) (he:(Op.equal t u v).run P w= .ok b w) (x y:Operand):
 (do eqGuard op t x y u v;binOp op t u v).run P w= .ok (cv ρ (Y9 (decide (op= .neq)) b)) w:=by
 rw[zu5,Zm hi hg,zuT,zmi hop hne hs hf hc he,zqV]
theorem zjS{t e:TypeId}(ht:P.underlying t=some (.pointer e)){u v:SV}{b:Bool}(he:zet u v=some b)(d:Nat):(Op.equalIn (d+1) t (c0 ρ u) (c0 ρ v)).run P w= .ok b w:=by
 unfold zet at he;split at he<;>first|(cases he;done)|(obtain rfl:=zuG he)
 all_goals simp[Op.equalIn,run_underlying ht,c0]
theorem zml{t e:TypeId}(ht:P.underlying t=some (.slice e)){u v:SV}{b:Bool}(he:zjc u v=some b)(d:Nat):(Op.equalIn (d+1) t (c0 ρ u) (c0 ρ v)).run P w= .ok b w:=by
 unfold zjc at he;split at he<;>first|(cases he;done)|(obtain rfl:=zuG he)
 all_goals simp[Op.equalIn,run_underlying ht,c0]
theorem zoE{t e:TypeId}(ht:P.underlying t=some (.pointer e)){u v:SV}{b:Bool}(he:zet u v=some b){op:BinOp}(hop:op= .eql∨op= .neq)(x y:Operand):
 (do eqGuard op t x y (c0 ρ u) (c0 ρ v);binOp op t (c0 ρ u) (c0 ρ v)).run P w= .ok (cv ρ (Y9 (decide (op= .neq)) b)) w:=by
 have hr:=zjS (w:=w) (ρ:=ρ) ht he 9999;unfold zet at he;split at he<;>first|(cases he;done)|(obtain rfl:=zuG he)
 all_goals exact zgJ hop (by simp[c0]) (by simp[c0]) (by simp[c0]) (by simp[c0]) (by simp[c0]) (by simp[c0]) hr x y
theorem zoD{t e:TypeId}(ht:P.underlying t=some (.slice e)){u v:SV}{b:Bool}(he:zjc u v=some b){op:BinOp}(hop:op= .eql∨op= .neq)(x y:Operand):
 (do eqGuard op t x y (c0 ρ u) (c0 ρ v);binOp op t (c0 ρ u) (c0 ρ v)).run P w= .ok (cv ρ (Y9 (decide (op= .neq)) b)) w:=by
 have hr:=zml (w:=w) (ρ:=ρ) ht he 9999;unfold zjc at he;split at he<;>first|(cases he;done)|(obtain rfl:=zuG he)
 all_goals exact zgJ hop (by simp[c0]) (by simp[c0]) (by simp[c0]) (by simp[c0]) (by simp[c0]) (by simp[c0]) hr x y
theorem zre{t:TypeId}(ht:P.underlying t=some .bool)(a b:Bool){op:BinOp}(hop:op= .eql∨op= .neq)(x y:Operand):
 (do eqGuard op t x y (.bool a) (.bool b);binOp op t (.bool a) (.bool b)).run P w= .ok (cv ρ (Y9 (decide (op= .neq)) (a==b))) w:=
   zgJ hop (by simp) (by simp) (by simp) (by simp) (by simp) (by simp) (run_equal_bool w t a b ht) x y
theorem qj{t:TypeId}{d:TypeDesc}(hu:P.underlying t=some d)(hd:d.isRow=false){l:List SV}{o:Nat}{v:SV}(hv:l[o]? =some v):(part t (l.map (c0 ρ)).toArray o).run P w= .ok (c0 ρ v) w:=by unfold part;rw[zu5,Jz hu hd,zuT,zuQ (by decide)];simp[hv]
theorem zc2{t:TypeId}{q:Nat}{u v:SV}{b:Bool}(he:YV q u v=some b)(ht:(∃k,P.underlying t=some (.int k)∧q=0)∨(P.underlying t=some .bool∧q=1)∨(P.underlying t=some .string∧q=2))(d:Nat):
 (Op.equalIn (d+1) t (c0 ρ u) (c0 ρ v)).run P w= .ok b w:=by
 unfold YV at he;split at he
 ·rename_i k a k' a';split at he
  ·rename_i hk;subst hk;obtain rfl:=zuG he;rcases ht with⟨k2,h1,_⟩|⟨_,h⟩|⟨_,h⟩
   ·exact run_equalIn_int w d t k k2 a a' h1
   ·cases h
   ·cases h
  ·cases he
 ·rename_i a a';obtain rfl:=zuG he;rcases ht with⟨k2,h1,h⟩|⟨h1,_⟩|⟨_,h⟩
  ·cases h
  ·exact run_equalIn_bool w d t a a' h1
  ·cases h
 ·rename_i a a';obtain rfl:=zuG he;rcases ht with⟨k2,h1,h⟩|⟨_,h⟩|⟨h1,_⟩
  ·cases h
  ·cases h
  ·rw[beq_toListBytes];exact run_equalIn_string w d t a a' h1
 ·cases he
theorem zjA{t:TypeId}{q:Nat}(ht:(∃k,P.underlying t=some (.int k)∧q=0)∨(P.underlying t=some .bool∧q=1)∨(P.underlying t=some .string∧q=2)):∃d,P.underlying t=some d∧d.isRow=false:=by
 rcases ht with⟨k,h,_⟩|⟨h,_⟩|⟨h,_⟩
 ·exact⟨_,h,rfl⟩
 ·exact⟨_,h,rfl⟩
 ·exact⟨_,h,rfl⟩
theorem zaI{xs ys:List SV}(d:Nat):∀(fs:List Field) (ps:List (Nat×Nat)) (b:Bool),qf P fs=some ps→jV xs ys ps=some b→
 (Op.eqFields (d+1) (xs.map (c0 ρ)).toArray (ys.map (c0 ρ)).toArray fs).run P w= .ok b w
 |[],ps,b,hp,he=>by
  simp only[qf,zuE] at hp;subst hp;simp only[jV,zuE] at he;subst he;rfl
 |f::r,ps,b,hp,he=>by
  have key : ∃ q ps', ps = (f.offset, q) :: ps' ∧       qf P r = some ps' ∧ f.name ≠ "_" ∧ ((∃ k, P.underlying f.type = some (.int k) ∧ q = 0) ∨ (P.underlying f.type = some .bool ∧ q = 1) ∨ (P.underlying f.type = some .string ∧ q = 2)) := by
   unfold qf at hp;split at hp
   ·cases hp
   ·rename_i hn;split at hp
    ·rename_i k hu;obtain⟨ps',h1,rfl⟩:=zuI.1 hp;exact⟨0,ps',rfl,h1,hn,.inl ⟨k,hu,rfl⟩⟩
    ·rename_i hu;obtain⟨ps',h1,rfl⟩:=zuI.1 hp;exact⟨1,ps',rfl,h1,hn,.inr (.inl ⟨hu,rfl⟩)⟩
    ·rename_i hu;obtain⟨ps',h1,rfl⟩:=zuI.1 hp;exact⟨2,ps',rfl,h1,hn,.inr (.inr ⟨hu,rfl⟩)⟩
    ·cases hp
  obtain⟨q,ps',rfl,hp',hn,ht⟩:=key;obtain⟨dd,hu,hd⟩:=zjA ht;simp only[jV] at he;split at he
  ·rename_i x y hx hy;split at he
   ·rename_i hce;simp only[Op.eqFields,zuO hn,zu5,qj hu hd hx,qj hu hd hy,zuT,zc2 hce ht d];simpa using zaI d r ps' b hp' he
   ·rename_i hce;obtain rfl:=zuG he;simp only[Op.eqFields,zuO hn,zu5,qj hu hd hx,qj hu hd hy,zuT,zc2 hce ht d];simp
   ·cases he
  ·cases he
theorem zrf{t:TypeId}{fs:Array Field}{ps:List (Nat×Nat)}{xs ys:List SV}{b:Bool}(ht:P.underlying t=some (.struct fs))(hg:P.eqGuardType P.depth t=false)(hp:P.stoodInHeld t=false)(hc:qf P fs.toList=some ps)(he:jV xs ys ps=some b)
 {op:BinOp} (hop:op= .eql∨op= .neq) (x y:Operand):
 (do eqGuard op t x y (.agg (xs.map (c0 ρ)).toArray) (.agg (ys.map (c0 ρ)).toArray);binOp op t (.agg (xs.map (c0 ρ)).toArray) (.agg (ys.map (c0 ρ)).toArray)).run P w= .ok (cv ρ (Y9 (decide (op= .neq)) b)) w:=by
 have hf:P.fieldsOf t=fs:=by simp[Program.fieldsOf,ht]
 have hq:(Op.equalIn 10000 t (.agg (xs.map (c0 ρ)).toArray) (.agg (ys.map (c0 ρ)).toArray)).run P w= .ok b w:=by rw[show(10000:Nat)=9998+1+1 from rfl,run_equalIn_struct w _ t _ _ (by rw[hf];exact ht) hp,hf];exact zaI 9998 fs.toList ps b hc he
 rw[zu5,run_eqGuard_agg w op t x y _ _ hg,zuT];rcases hop with rfl|rfl
 ·rw[run_eql_struct,hq];rfl
 ·rw[run_neq_struct,hq];rfl
end
end
section
variable {P:Program} {w0:Base}
section
variable {ρ:Nat→Ph} {h:LH} {w:World} {N:Nat} {fr:Fr} {a:Act}
theorem qA{p:Ph}{q o:Nat}(h:o<p.cap):adr p q o=⟨p.blk,p.base+o*p.sz,none⟩:=by unfold adr;rw[zuQ (by omega)]
theorem zaR{w:World}{need old:Nat}{e:TypeId}:need≤grownCap w need old e:=by simp[grownCap,Question.cut]
theorem yr{e:TypeId}{i:TypeInfo}(hi:P.info? e=some i):P.cellsOf e=i.size:=by unfold Program.cellsOf;rw[hi];rfl
theorem zeN(R:Rel P w0 ρ h w){e e':TypeId}{tx:TypeId}{i:TypeInfo}(hi:P.info? e=some i)(hk:P.underlying tx=some (.slice e')){v:SV}{n:Nat}{new:List SV}(hv:wf ρ h.length v)(hl:zbE v=some n)(he:j6 h e i.size v=some new):
 Src P i.size tx (c0 ρ v) n (new.map (c0 ρ)) w∧(∀u∈new,wf ρ h.length u)∧new.length=n*i.size:=by
 cases v<;>simp only[zbE,zuE] at hl<;>simp only[j6,zuE] at he<;>first
  |(cases hl;done)
  |(cases he;done)
  |skip
 case nils=>
  subst hl;subst he;exact⟨Src.ofNil w hk 0,by simp,by simp⟩
 case sl0 j p o=>
  subst hl;subst he;exact⟨Src.ofSlice w hk _ 0 0 [] (by simp) (by simp) (by simp),by simp,by simp⟩
 case sl j p o m=>
  subst hl;by_cases h0:m=0
  ·subst h0;simp only[j6,zuE] at he;subst he;exact⟨Src.ofSlice w hk _ 0 _ [] (by simp) (by simp) (by simp),by simp,by simp⟩
  ·obtain⟨m',rfl⟩:∃m',m=m'+1:=⟨m-1,by omega⟩
   simp only[j6] at he;split at he
   ·rename_i t' vs hc;split at he
    ·rename_i ht;split at he
     ·rename_i hle;obtain rfl:=zuG he;subst ht;obtain⟨q1,q2,q3,q4⟩:=R.cells hc;rw[yr hi] at q2;simp only[wf] at hv;have hwn:∀u∈(vs.drop (o*i.size)).take ((m'+1)*i.size),wf ρ h.length u:=fun u hu=>q3 u (zwn (zvM hu));have hlen:((vs.drop (o*i.size)).take ((m'+1)*i.size)).length=(m'+1)*i.size:=by
       rw[zvv] at hle;rw[zu0,zvQ];omega
      refine⟨Src.ofSlice w hk _ _ _ _ (by rw[zu9,hlen]) ?_ (zgA hwn),hwn,hlen⟩;intro j' u hu;rw[qA (by omega),Addr.add_mid,q2];rw[←J6] at hu;exact qM q1 (o*i.size) ((m'+1)*i.size) j' u hu
     ·cases he
    ·cases he
   ·cases he
theorem zro{tx:TypeId}(hk:P.underlying tx=some .string)(s:ByteArray)(n:Nat):Src P 1 tx (.string s) s.size ((yP s).map (c0 ρ)) w∧(∀u∈yP s,wf ρ n u)∧(yP s).length=s.size*1:=by
 refine⟨?_,?_,by simp[yP]⟩
 ·have:=Src.ofString (P:=P) w hk s;have e:(yP s).map (c0 ρ)=byteCells s:=by
   unfold yP byteCells;rw[zwN];rfl
  rw[e];exact this
 ·intro u hu;obtain⟨b,_,rfl⟩:=zvV.1 hu;trivial
theorem zkb(R:Rel P w0 ρ h w){t tx ty e:TypeId}{i:TypeInfo}{z:Value}(ht:P.underlying t=some (.slice e))(hi:P.info? e=some i)(hz:i.zero=some z)(hzs:z.cells.size=i.size)(h0:0<i.size)(hy:0<i.bytes){v:SV}(hv:wf ρ h.length v)
 {x:Value} {n:Nat} {new:List SV} (hs:Src P i.size tx x n (new.map (c0 ρ)) w) (hwn:∀u∈new,wf ρ h.length u) (hln:new.length=n*i.size) {out:FV} {h':LH} (he:ZF h e i.size i.bytes v n new=some (out,h')):
 ∃ρ' w',(Builtin.append_ #[t,tx] ty #[c0 ρ v,x]).run P w= .ok (cv ρ' out) w'∧Rel P w0 ρ' h' w'∧Ext h.length ρ ρ'∧h.length≤h'.length∧wfV ρ' h'.length out:=by
 have hP:=yr hi;unfold ZF at he;split at he
 ·rename_i hn;subst hn;have hnew:new=[]:=zvU (by omega);subst hnew
  cases v<;>simp only[zuE,zuH] at he<;>first
   |(cases he;done)
   |(obtain⟨rfl,rfl⟩:=he
     refine⟨ρ,w,run_append_nothing w t tx ty e i ht hi _ _ _ ?_ x hs,R,Ext.refl _ _,zuL _,hv⟩
     first
      |exact zuL _
      |(simp only[wf] at hv;omega))
 ·rename_i hn;have hsD:∀(w1:World),True:=fun _=>trivial
  cases v<;>simp only at he<;>first
   |(cases he;done)
   |skip
  case nils=>
   split at he
   ·rename_i hle;simp only[zuE,zuH] at he;obtain⟨rfl,rfl⟩:=he;have h63:n≤140737488355328:=by
     have:=zxk n hy;omega
    have hrun:=run_append_grow_src (P:=P) w t tx ty e i z ht hi hz none 0 0 [] (by simpa using run_firstCells_none w.drew i.size 0 0 0) x n (new.map (c0 ρ)) hs (by omega) (by omega) (growslice_fits (by omega) (by simpa using hle));have hge:n≤grownCap w n 0 e:=zaR;simp only[zvn,zwj] at hrun;refine⟨upd ρ h.length ⟨w.heap.size,0,P.cellsOf e,grownCap w n 0 e,undef⟩,_,?_,R.drew.alloc e ((new.map (c0 ρ)).toArray++Builtin.zeroCells z.cells (grownCap w n 0 e-n)) new (grownCap w n 0 e) ?_ ?_ ?_ hwn,yx _ _ _,by simp,?_⟩
    ·simp only[c0];rw[hrun];simp[cv,c0,adr,zu,grownCap,Question.cut]
    ·rw[hP];simp only[zxa,zwe,zu9,hln,size_zeroCells,hzs];rw[←zvv];congr 1;omega
    ·rw[hP,hln];exact zvf _ hge
    ·intro j u hj;have hlt:j<new.length:=(zuJ.1 hj).1;rw[zwM (by simpa using hlt)];simp[hj]
    ·simp only[wfV,wf,zu,zuM,zuS];omega
   ·cases he
  case sl0 j p o=>
   split at he
   ·rename_i hle;simp only[zuE,zuH] at he;obtain⟨rfl,rfl⟩:=he;have h63:n≤140737488355328:=by
     have:=zxk n hy;omega
    have hrun:=run_append_grow_src (P:=P) w t tx ty e i z ht hi hz (some (adr (ρ j) p o)) 0 0 [] (by simpa using run_firstCells_some (P:=P) w.drew i.size 0 (adr (ρ j) p o) 0 0 [] (by simp) (by simp)) x n (new.map (c0 ρ)) hs (by omega) (by omega) (growslice_fits (by omega) (by simpa using hle));have hge:n≤grownCap w n 0 e:=zaR;simp only[zvn,zwj] at hrun;refine⟨upd ρ h.length ⟨w.heap.size,0,P.cellsOf e,grownCap w n 0 e,undef⟩,_,?_,R.drew.alloc e ((new.map (c0 ρ)).toArray++Builtin.zeroCells z.cells (grownCap w n 0 e-n)) new (grownCap w n 0 e) ?_ ?_ ?_ hwn,yx _ _ _,by simp,?_⟩
    ·simp only[c0];rw[hrun];simp[cv,c0,adr,zu,grownCap,Question.cut]
    ·rw[hP];simp only[zxa,zwe,zu9,hln,size_zeroCells,hzs];rw[←zvv];congr 1;omega
    ·rw[hP,hln];exact zvf _ hge
    ·intro j u hj;have hlt:j<new.length:=(zuJ.1 hj).1;rw[zwM (by simpa using hlt)];simp[hj]
    ·simp only[wfV,wf,zu,zuM,zuS];omega
   ·cases he
  case sl j p o m=>
   split at he
   ·rename_i t' vs hj;split at he
    ·rename_i htt;split at he
     ·rename_i hom;split at he
      ·rename_i hle;simp only[zuE,zuH] at he;obtain⟨rfl,rfl⟩:=he;subst htt;obtain⟨b1,b2,b3,b4,b5,b6,b7⟩:=R.obj j _ hj;rw[hP] at b3;simp only[wf] at hv;have h63:m+n≤140737488355328:=by
        have:=zxk (m+n) hy;omega
       rcases zwk ((ρ j).cap-o) (m+n) with hg|hroom
       ·--there is no room
        have hold:(Builtin.firstCells i.size m (.slice (some (adr (ρ j) p o)) m ((ρ j).cap-o))).run P w.drew= .ok (((vs.drop (o*i.size)).take (m*i.size)).map (c0 ρ)).toArray w.drew:=by
         refine run_firstCells_some (P:=P) w.drew i.size m _ m _ _ ?_ ?_
         ·rw[zu9,zu0,zvQ];rw[zvv] at hom;omega
         ·intro k u hu;have hpos:0<m:=by
           rcases Nat.eq_zero_or_pos m with rfl|hp
           ·simp at hu
           ·exact hp
          rw[qA (by omega),Addr.add_mid,b3];rw[←J6] at hu;exact qM b5 (o*i.size) (m*i.size) k u hu
        have hrun:=run_append_grow_src (P:=P) w t tx ty _ i z ht hi hz (some (adr (ρ j) p o)) m ((ρ j).cap-o) _ hold x n (new.map (c0 ρ)) hs hg (by omega) (growslice_fits hg hle);have hge:m+n≤grownCap w (m+n) ((ρ j).cap-o) t':=zaR;have hwo:∀u∈(vs.drop (o*i.size)).take (m*i.size)++new,wf ρ h.length u:=by
         intro u hu;rcases zuY.1 hu with hu|hu
         ·exact b7 u (zwn (zvM hu))
         ·exact hwn u hu
        have hlo:((vs.drop (o*i.size)).take (m*i.size)++new).length=(m+n)*i.size:=by rw[zuM,zu0,zvQ,hln,zvv];rw[zvv] at hom;omega
        have hk:=R.drew.kill j;have hkl:(h.set j LO.dead).length=h.length:=zvi;have hA:=hk.alloc t' (((((vs.drop (o*i.size)).take (m*i.size)).map (c0 ρ)++new.map (c0 ρ)).toArray)++Builtin.zeroCells z.cells (grownCap w (m+n) ((ρ j).cap-o) t'-(m+n))) ((vs.drop (o*i.size)).take (m*i.size)++new) (grownCap w (m+n) ((ρ j).cap-o) t') ?_ ?_ ?_ (by rw[hkl];exact hwo);rw[hkl] at hA;refine⟨_,_,?_,hA,yx _ _ _,by simp,?_⟩
        ·simp only[c0];rw[hrun];simp[cv,c0,adr,zu,grownCap,Question.cut]
        ·simp only[wfV,wf,zu,zuM,zuS,hkl];omega
        ·rw[hP,zxa,zwe,←zvp,zu9,hlo,size_zeroCells,hzs,←zvv];congr 1;omega
        ·rw[hP,hlo];exact zvf _ hge
        ·intro k u hk';have hlt:=(zuJ.1 hk').1;rw[zwM (by rw[zwe,←zvp,zu9];exact hlt)];rw[←zvp];simp only[zw6,zvC,hk'];rfl
       ·--there is room
        have hrun:=run_append_room_src (P:=P) w t tx ty _ i ht hi (ρ j).blk ((ρ j).base+o*(ρ j).sz) m ((ρ j).cap-o) x n (new.map (c0 ρ)) hs hroom (fun k hk=>by
         rw[zu9,hln] at hk;have hmul:(o+m+n)*i.size≤(ρ j).cap*i.size:=zvf _ (by omega);rw[zvv,zvv] at hmul;have:=(b4 (o*i.size+m*i.size+k) (by rw[b3];omega)).1;rw[b3,show(ρ j).base+o*i.size+m*i.size+k=(ρ j).base+(o*i.size+m*i.size+k) by omega];exact this)
         (fun k hk=>by
           rw[zu9,hln] at hk;have hmul:(o+m+n)*i.size≤(ρ j).cap*i.size:=zvf _ (by omega);rw[zvv,zvv] at hmul;have:=(b4 (o*i.size+m*i.size+k) (by rw[b3];omega)).2;rw[b3,show(ρ j).base+o*i.size+m*i.size+k=(ρ j).base+(o*i.size+m*i.size+k) by omega];exact this)
        have hA:=R.inplace (i:=j) (m:=m) (n:=n) (o:=o) (new:=new) (c:=(ρ j).cap-o) hj (by rw[b3];exact hom) (by rw[b3];exact hln) (by omega) (by omega) hwn;rw[b3] at hA hrun;refine⟨_,_,?_,hA,yx _ _ _,by simp,?_⟩
        ·simp only[c0];rw[qA (by omega),b3,hrun];simp[cv,c0,adr,zu]
        ·simp only[wfV,wf,zu,zuM,zuS,zvi];omega
      ·cases he
     ·cases he
    ·cases he
   ·cases he
end
end
section
variable {P:Program} {w0:Base}
section
variable {ρ:Nat→Ph} {h:LH} {w:World} {N:Nat} {fr:Fr} {a:Act}
theorem zug{op:UnOp}{v r:SV}(he:unE op v=some r):(Op.unary op (c0 ρ v)).run P w= .ok (c0 ρ r) w∧∀n,wf ρ n r:=by
 unfold unE at he;split at he
 ·obtain rfl:=zuG he;exact⟨by simp[Op.unary,Op.intArith,c0],fun _=>trivial⟩
 ·obtain rfl:=zuG he;exact⟨by simp[Op.unary,c0],fun _=>trivial⟩
 ·cases he
theorem qX(hF:FrR ρ h.length N fr a):∀{l:List Operand} {ys:List OD} {vs:List FV},yz l=some ys→odL fr ys=some vs→l.map a.eval=vs.map (cv ρ)∧∀v∈vs,wfV ρ h.length v
 |[],ys,vs,hc,he=>by
  simp only[yz,zuE] at hc;subst hc;simp only[odL,zuE] at he;subst he;exact⟨rfl,by simp⟩
 |x::r,ys,vs,hc,he=>by
  simp only[yz] at hc;split at hc
  ·rename_i y hx;obtain⟨ys',hy,rfl⟩:=zuI.1 hc;simp only[odL] at he;split at he
   ·rename_i v hv;obtain⟨vs',hvs,rfl⟩:=zuI.1 he;obtain⟨e1,e2⟩:=ja hF hx hv;obtain⟨q1,q2⟩:=qX hF hy hvs;refine⟨by rw[zu2,zu2,e1,q1],fun u hu=> ?_⟩;rcases zuX.1 hu with rfl|hu
    ·exact e2
    ·exact q2 u hu
   ·cases he
  ·cases hc
theorem zaK{l:List FV}{n:Nat}(hf:Yg l=true)(hw:∀v∈l,wfV ρ n v):(∀v∈l,wf1 ρ n v)∧l.map (cv ρ)=l.map (c1 ρ):=by
 induction l with
 |nil=>exact⟨by simp,rfl⟩
 |cons v r ih=>
  cases v with
  |tup l=>cases hf
  |s v=>
   obtain⟨q1,q2⟩:=ih hf (fun v hv=>hw v (zvD _ hv));refine⟨fun u hu=> ?_,by rw[zu2,zu2,q2];rfl⟩;rcases zuX.1 hu with rfl|hu
   ·exact hw _ zvT
   ·exact q1 u hu
  |agg v=>
   obtain⟨q1,q2⟩:=ih hf (fun v hv=>hw v (zvD _ hv));refine⟨fun u hu=> ?_,by rw[zu2,zu2,q2];rfl⟩;rcases zuX.1 hu with rfl|hu
   ·exact hw _ zvT
   ·exact q1 u hu
theorem YC(hF:FrR ρ h.length N fr a){o:Option Operand}{y:Option OD}(hc:Ye o=some y){d l:Nat}(hb:bound fr d y=some l):
 (o=none∧l=d)∨∃x k n,o=some x∧a.eval x= .int k n∧0≤n∧n.toNat=l:=by
 cases o with
 |none=>
  simp only[Ye,zuE] at hc;subst hc;simp only[bound,zuE] at hb;exact .inl ⟨rfl,hb.symm⟩
 |some x=>
  obtain⟨z,hz,rfl⟩:=zuI.1 hc;simp only[bound] at hb;split at hb
  ·rename_i k n hk;split at hb
   ·rename_i hn;obtain rfl:=zuG hb;exact .inr ⟨x,k,n,rfl,(zh hF hz hk).1,hn,rfl⟩
   ·cases hb
  ·cases hb
theorem y0{v:Value}{k:IntKind}{n:Int}{y:Nat}{code:BoundsCode}(hv:v= .int k n)(h0:0≤n)(h1:n.toNat≤y):(Instr.sliceBound v y code).run P w= .ok n.toNat w:=by
 subst hv;have:0≤n∧n≤(y:Int):=⟨h0,by omega⟩
 simp[Instr.sliceBound,asIntOf,this]
theorem Zr{s:Bool}{len cap l u:Nat}{lo hi:Option Operand}(hlo:(lo=none∧l=0)∨∃x k n,lo=some x∧a.eval x= .int k n∧0≤n∧n.toNat=l)
 (hhi:(hi=none∧u=len)∨∃x k n,hi=some x∧a.eval x= .int k n∧0≤n∧n.toNat=u) (h1:l≤u) (h2:u≤len) (h3:len≤cap):
 (Instr.sliceBounds s len cap (lo.map a.eval) (hi.map a.eval) none).run P w= .ok (l,u,cap) w:=by
 rcases hhi with⟨rfl,rfl⟩|⟨x,k,n,rfl,e1,e2,rfl⟩
 ·rcases hlo with⟨rfl,rfl⟩|⟨x,k,n,rfl,e1,e2,rfl⟩
  ·simp[Instr.sliceBounds]
  ·have:=y0 (P:=P) (w:=w) (code:= .sliceB) e1 e2 h1;simp[Instr.sliceBounds,this]
 ·have hu:=y0 (P:=P) (w:=w) (y:=cap) (code:=if s then .sliceAcap else .sliceAlen) e1 e2 (by omega);rcases hlo with⟨rfl,rfl⟩|⟨x',k',n',rfl,e1',e2',rfl⟩
  ·simp[Instr.sliceBounds,hu]
  ·have:=y0 (P:=P) (w:=w) (code:= .sliceB) e1' e2' h1;simp[Instr.sliceBounds,hu,this]
theorem jR{t:TypeId}(ht:(∀n e,P.underlying t≠some (.array n e))){d:TypeDesc}(hd:P.underlying t=some d)(x:Value)(lo hi mx:Option Value):(Instr.sliceAt t x lo hi mx).run P w=(Instr.slice t x lo hi mx).run P w:=by
 unfold Instr.sliceAt;rw[zu5,run_underlying hd,zuT]
 cases d<;>first
  |rfl
  |exact absurd hd (ht _ _)
theorem jd{t e:TypeId}(he:Ze P t=some e):P.underlying t=some (.slice e):=by
 unfold Ze at he;split at he
 ·rename_i e' hu;obtain rfl:=zuG he;exact hu
 ·cases he
theorem zdC{t:TypeId}(h:zhv P t=true):P.underlying t=some .string:=by
 unfold zhv at h;split at h
 ·assumption
 ·cases h
theorem zrp(R:Rel P w0 ρ h w)(hF:FrR ρ h.length N fr a){t:TypeId}{x:Operand}{lo hi:Option Operand}{y:OD}{l u:Option OD}(hx:zi x=some y)(hl:Ye lo=some l)(hu:Ye hi=some u)(hstr:P.underlying t=some .string){v:FV}{h':LH}(he:opE fr h (.subs y l u)=some (v,h')):
 Res P w0 ρ h w (do pure (Next.value (←Instr.sliceAt t (a.eval x) (lo.map a.eval) (hi.map a.eval) none))) v h':=by
 simp only[opE] at he;split at he
 ·rename_i s hs;obtain⟨e1,e2⟩:=zh hF hx hs;split at he
  ·rename_i l' u' hl' hu';split at he
   ·rename_i h1;split at he
    ·rename_i h2;simp only[zuE,zuH] at he;obtain⟨rfl,rfl⟩:=he;refine Res.val R ?_ trivial;rw[jR (by rw[hstr];simp) hstr,e1];simp only[Instr.slice,zu5,run_underlying hstr,zuT,c0,zxN,zva,if_false];rw[Zr (YC hF hl hl') (YC hF hu hu') h1 h2 (zuL _)];rfl
    ·cases he
   ·cases he
  ·cases he
 ·cases he
theorem zt7(R:Rel P w0 ρ h w)(hF:FrR ρ h.length N fr a){t:TypeId}{x:Operand}{lo hi:Option Operand}{y:OD}{l u:Option OD}{e z:Nat}(hx:zi x=some y)(hl:Ye lo=some l)(hu:Ye hi=some u)
 {i:TypeInfo} (hu':P.underlying t=some (.slice e)) (hi':P.info? e=some i) (hz:z=i.size) {v:FV} {h':LH} (he:opE fr h (.sli e z y l u)=some (v,h')):
 Res P w0 ρ h w (do pure (Next.value (←Instr.sliceAt t (a.eval x) (lo.map a.eval) (hi.map a.eval) none))) v h':=by
 simp only[opE] at he;split at he
 ·rename_i hs;subst hz;obtain⟨e1,e2⟩:=zh hF hx hs;split at he
  ·rename_i hl' hh';simp only[zuE,zuH] at he;obtain⟨rfl,rfl⟩:=he;refine Res.val R ?_ trivial;rw[jR (by rw[hu'];simp) hu',e1];have hb:=Zr (P:=P) (w:=w) (a:=a) (s:=true) (len:=0) (cap:=0) (YC hF hl hl') (YC hF hu hh') (zuL _) (zuL _) (zuL _);simp only[Instr.slice,zu5,run_underlying hu',zuT,c0,hb,zP hi',zvg];rfl
  ·cases he
 ·rename_i j p o n hs;subst hz;obtain⟨e1,e2⟩:=zh hF hx hs;simp only[wf] at e2;split at he
  ·rename_i l' u' t' vs hl' hh' hc;split at he
   ·rename_i htt;subst htt;split at he
    ·rename_i h1;split at he
     ·rename_i h2;simp only[zuE,zuH] at he;obtain⟨rfl,rfl⟩:=he;obtain⟨q1,q2,q3,q4⟩:=R.cells hc;rw[yr hi'] at q2;refine Res.val R ?_ ?_
      ·rw[jR (by rw[hu'];simp) hu',e1];have hb:=Zr (P:=P) (w:=w) (a:=a) (s:=true) (len:=n) (cap:=(ρ j).cap-o) (YC hF hl hl') (YC hF hu hh') h1 h2 (by omega);simp only[Instr.slice,zu5,run_underlying hu',zuT,c0,hb,zP hi',zvg,cv,zvb];congr 1;have hcap:(ρ j).cap-o-l'=(ρ j).cap-(o+l'):=by omega
       rw[hcap];congr 1;by_cases hl0:l'=0
       ·subst hl0;rw[zuO rfl];simp only[Addr.add,zvP,if_true,ite_self,zwa]
       ·rw[zuQ hl0,qA (p:=ρ j) (q:=p) (o:=o) (by omega)];by_cases hc':(ρ j).cap-o=l'
        ·rw[zuO hc'];unfold adr;rw[zuO (by omega)]
        ·rw[zuQ hc',Addr.add_mid];unfold adr;rw[zuQ (by omega),q2,zvv,zwd]
      ·simp only[wfV,wf];omega
     ·cases he
    ·cases he
   ·cases he
  ·cases he
 ·cases he
theorem zrk(R:Rel P w0 ρ h w)(hF:FrR ρ h.length N fr a){t e:TypeId}{x u m:Operand}{y:OD}(ht:P.underlying t=some (.slice e)){i:TypeInfo}(hi:P.info? e=some i)(hx:zi x=some y)(hu:zbC u=true)(hm:zbC m=true){v:FV}{h':LH}(he:opE fr h (.sli0 y)=some (v,h')):
 Res P w0 ρ h w (do pure (Next.value (←Instr.sliceAt t (a.eval x) none (some (a.eval u)) (some (a.eval m))))) v h':=by
 have hz:∀o,zbC o=true→∃k,a.eval o= .int k 0:=by
  intro o ho;unfold zbC at ho;split at ho
  ·exact⟨_,rfl⟩
  ·cases ho
 obtain⟨k1,hu'⟩:=hz u hu;obtain⟨k2,hm'⟩:=hz m hm;have hb:∀len cap,(Instr.sliceBounds true len cap none (some (a.eval u)) (some (a.eval m))).run P w= .ok (0,0,0) w:=by intro len cap;have b1:=y0 (P:=P) (w:=w) (y:=cap) (code:= .slice3Acap) hm' (Int.le_refl _) (by simp);have b2:=y0 (P:=P) (w:=w) (y:=0) (code:= .slice3B) hu' (Int.le_refl _) (by simp);simp only[Int.toNat_zero] at b1 b2;simp[Instr.sliceBounds,b1,b2]
 simp only[opE] at he;have fin:∀s,odS fr y=some s→(s= .nils∧v= .s .nils∧h'=h)∨(∃j p o n,s= .sl j p o n∧v= .s (.sl0 j p o)∧h'=h)∨(∃j p o,s= .sl0 j p o∧v= .s (.sl0 j p o)∧h'=h):=by
  intro s hs;rw[hs] at he
  cases s<;>simp only[zuE,zuH] at he<;>first
   |(cases he;done)
   |(obtain⟨rfl,rfl⟩:=he;simp)
 cases hs:odS fr y with
 |none=>rw[hs] at he;cases he
 |some s=>
  obtain⟨e1,e2⟩:=zh hF hx hs;rcases fin s hs with⟨rfl,rfl,rfl⟩|⟨j,p,o,n,rfl,rfl,rfl⟩|⟨j,p,o,rfl,rfl,rfl⟩
  ·refine Res.val R ?_ trivial;rw[jR (by rw[ht];simp) ht,e1];simp only[Instr.slice,zu5,run_underlying ht,zuT,c0,hb,zP hi,zvg];rfl
  ·refine Res.val R ?_ e2.1;rw[jR (by rw[ht];simp) ht,e1];simp only[Instr.slice,zu5,run_underlying ht,zuT,c0,hb,zP hi,zvg];rfl
  ·refine Res.val R ?_ e2;rw[jR (by rw[ht];simp) ht,e1];simp only[Instr.slice,zu5,run_underlying ht,zuT,c0,hb,zP hi,zvg];rfl
theorem zsY(R:Rel P w0 ρ h w)(hF:FrR ρ h.length N fr a){t e:TypeId}{x u m:Operand}{y k:OD}(ht:P.underlying t=some (.slice e)){i:TypeInfo}(hi:P.info? e=some i)(hx:zi x=some y)(hu:zi u=some k)(hs:zbR u m=true){v:FV}{h':LH}(he:opE fr h (.cut e i.size y k)=some (v,h')):
 Res P w0 ρ h w (do pure (Next.value (←Instr.sliceAt t (a.eval x) none (some (a.eval u)) (some (a.eval m))))) v h':=by
 have hP:=yr hi;simp only[opE] at he;split at he
 ·rename_i s q n hsx hsk;obtain⟨e1,e2⟩:=zh hF hx hsx;obtain⟨e3,-⟩:=zh hF hu hsk;have hm:a.eval m=a.eval u:=by
   unfold zbR at hs;split at hs
   ·rw[eq_of_beq hs]
   ·rw[eq_of_beq hs]
   ·cases hs
  split at he
  ·rename_i hn;have hb:∀len cap,n.toNat≤cap→(Instr.sliceBounds true len cap none (some (a.eval u)) (some (a.eval m))).run P w= .ok (0,n.toNat,n.toNat) w:=by
    intro len cap hcap;have b1:=y0 (P:=P) (w:=w) (y:=cap) (code:= .slice3Acap) (hm.trans e3) hn hcap;have b2:=y0 (P:=P) (w:=w) (y:=n.toNat) (code:= .slice3B) e3 hn (zuL _);simp[Instr.sliceBounds,b1,b2]
   unfold zfS at he;split at he
   ·rename_i h0;rw[h0] at hb
    cases s<;>simp only[zuE,zuH] at he<;>first
     |(cases he;done)
     |(obtain⟨rfl,rfl⟩:=he
       refine Res.val R ?_ (by first|trivial|exact e2.1|exact e2);rw[jR (by rw[ht];simp) ht,e1];simp only[Instr.slice,zu5,run_underlying ht,zuT,c0,hb _ _ (zws _),zP hi,zvg];rfl)
   ·rename_i h0
    cases s<;>simp only at he<;>first
     |(cases he;done)
     |skip
    rename_i j p o l;split at he
    ·rename_i t' vs hj;split at he
     ·rename_i htt;split at he
      ·rename_i hml;split at he
       ·rename_i hom;simp only[zuE,zuH] at he;obtain⟨rfl,rfl⟩:=he;subst htt;obtain⟨b1,b2,b3,b4,b5,b6,b7⟩:=R.obj j _ hj;rw[hP] at b3;simp only[wf] at e2;have hmo:(o+n.toNat)*i.size≤(o+l)*i.size:=zvf _ (by omega);have hA:=R.inplace (i:=j) (m:=n.toNat) (n:=0) (o:=o) (new:=[]) (c:=n.toNat) hj (by rw[b3];omega) (by simp) (by omega) (by omega) (by simp);rw[b3] at hA;simp only[zvl,zv9,World.setCells] at hA;refine⟨_,_,w,qT ?_,.inl rfl,hA,yx _ _ _,by simp,?_⟩
        ·rw[jR (by rw[ht];simp) ht,e1];simp only[Instr.slice,zu5,run_underlying ht,zuT,c0,hb _ _ (show n.toNat≤(ρ j).cap-o by omega),zP hi,zvg];rw[zuQ h0];simp[cv,c0,adr,zu,h0,b3,Addr.add,show¬(ρ j).cap≤o by omega]
        ·simp only[wfV,wf,zu,zuM,zuS,zvi];omega
       ·cases he
      ·cases he
     ·cases he
    ·cases he
  ·cases he
 ·cases he
end
end
section
variable {P:Program} {w0:Base}
section
variable {ρ:Nat→Ph} {h:LH} {w:World} {N:Nat} {fr:Fr} {a:Act}
theorem Res.pseudo{s:Sem Value}{v:SV}(R:Rel P w0 ρ h w)(o:LO)(hh:o.holds=false)(u:Value)(hs:s.run P w= .ok u w)(hv:v= .cl h.length∨v= .iv h.length)(h1:u.oneCell'=true)
 (ho:Q7 P w0.B (upd ρ h.length ⟨0,0,0,0,u⟩) (h.length+1) ⟨0,0,0,0,u⟩ w o):Res P w0 ρ h w (do pure (Next.value (←s))) (.s v) (h++[o]):=by
 refine⟨_,upd ρ h.length ⟨0,0,0,0,u⟩,w,qT hs,.inl ?_,R.pseudo _ o hh ho,yx _ _ _,by simp,?_⟩
 ·rcases hv with rfl|rfl<;>simp[cv,c0,zu]
 ·rcases hv with rfl|rfl<;>simp[wfV,wf,zu,h1]
theorem ztB(R:Rel P w0 ρ h w)(hF:FrR ρ h.length N fr a){f:Nat}{first caps:Array Operand}{x y:List OD}(hx:yz first.toList=some x)(hy:yz caps.toList=some y){v:FV}{h':LH}(he:opE fr h (.mkf f x y)=some (v,h')):
 Res P w0 ρ h w (do pure (Next.value (←Instr.makeFunc (.func f) (first.map a.eval) (caps.map a.eval)))) v h':=by
 simp only[opE] at he;split at he
 ·rename_i xs ys hxs hys;split at he
  ·rename_i hfl;simp only[zuE,zuH] at he;obtain⟨rfl,rfl⟩:=he;rw[zuP] at hfl;obtain⟨a1,a2⟩:=qX hF hx hxs;obtain⟨b1,b2⟩:=qX hF hy hys;obtain⟨w1,m1⟩:=zaK hfl.1 a2;obtain⟨w2,m2⟩:=zaK hfl.2 b2;rw[m1] at a1;rw[m2] at b1;have ea:first.map a.eval=(xs.map (c1 ρ)).toArray:=by apply zxl;simpa using a1
   have eb:caps.map a.eval=(ys.map (c1 ρ)).toArray:=by apply zxl;simpa using b1
   have hu:Ext h.length ρ (upd ρ h.length ⟨0,0,0,0,.func (.func f) (xs.map (c1 ρ)).toArray (ys.map (c1 ρ)).toArray⟩):=yx _ _ _;refine Res.pseudo R (.clo f xs ys) rfl (.func (.func f) (xs.map (c1 ρ)).toArray (ys.map (c1 ρ)).toArray) ?_ (.inl rfl) rfl ⟨?_,fun u hu'=>Jj hu (by omega) (w1 u hu'),fun u hu'=>Jj hu (by omega) (w2 u hu')⟩
   ·rw[ea,eb];rfl
   ·rw[zvo fun u hm=>Q9 hu (w1 u hm),zvo fun u hm=>Q9 hu (w2 u hm)]
  ·cases he
 ·cases he
theorem ztC(R:Rel P w0 ρ h w)(hF:FrR ρ h.length N fr a){t:TypeId}{d:TypeDesc}(hd:P.underlying t=some d)(hni:∀ms,d≠.interface ms){x:Operand}{y:OD}(hx:zi x=some y){v:FV}{h':LH}(he:opE fr h (.mki t y)=some (v,h')):
 Res P w0 ρ h w (do pure (Next.value (←Instr.makeInterface t (a.eval x)))) v h':=by
 simp only[opE] at he;split at he
 ·rename_i u hu;split at he
  ·rename_i hfl;simp only[zuE,zuH] at he;obtain⟨rfl,rfl⟩:=he;obtain⟨e1,e2⟩:=ja hF hx hu;obtain⟨w1,m1⟩:=zaK (l:=[u]) hfl (by simpa using e2);have w1':=w1 u zvT;have hext:Ext h.length ρ (upd ρ h.length ⟨0,0,0,0,.iface t (c1 ρ u)⟩):=yx _ _ _;refine Res.pseudo R (.ifc t u) rfl (.iface t (c1 ρ u)) ?_ (.inr rfl) rfl ⟨by rw[Q9 hext w1'],Jj hext (by omega) w1'⟩;rw[e1,zbs w1'];unfold Instr.makeInterface;rw[zu5,run_underlying hd,zuT]
   cases d<;>first
    |rfl
    |exact absurd rfl (hni _)
  ·cases he
 ·cases he
theorem zo7{n:Int}(h0:0≤n)(h1:n<9223372036854775808):IntKind.i64.wrap n=n:=by simp[IntKind.wrap,IntKind.bits,IntKind.signed];omega
theorem ztE(R:Rel P w0 ρ h w)(hF:FrR ρ h.length N fr a){t e:TypeId}{l c:Operand}{y:OD}{i:TypeInfo}{z:List SV}(ht:P.underlying t=some (.slice e))(hi:P.info? e=some i)(hz:Ya P e=some z)(hs:zbR l c=true)(h0:0<i.size)(hb0:0<i.bytes)(hzl:z.length=i.size)
 (hl:zi l=some y) {v:FV} {h':LH} (he:opE fr h (.mks e i.bytes z y)=some (v,h')):Res P w0 ρ h w (do pure (Next.value (←Instr.makeSlice t (a.eval l) (a.eval c)))) v h':=by
 simp only[opE] at he;split at he
 ·rename_i n hn;obtain⟨e1,e2⟩:=zh hF hl hn;split at he
  ·rename_i hn0;split at he
   ·rename_i hle;simp only[zuE,zuH] at he;obtain⟨rfl,rfl⟩:=he;have ec:a.eval c=a.eval l:=by
     unfold zbR at hs;split at hs
     ·rw[zwf] at hs;rw[hs]
     ·rw[zwf] at hs;rw[hs]
     ·cases hs
    obtain⟨i',u,hi',hu,hcell,hwf⟩:=ZD hz ρ;rw[hi] at hi';obtain rfl:=zuG hi';have hP:=yr hi;by_cases hwrap:IntKind.i64.wrap n=n
    ·refine⟨_,upd ρ h.length ⟨w.heap.size,0,P.cellsOf e,n.toNat,undef⟩,w.alloc (.cells ((rep n.toNat z).map (c0 ρ)).toArray e),qT ?_,.inl rfl,?_,yx _ _ _,by simp,?_⟩
     ·rw[ec,e1];have hty:(typeInfo e).run P w= .ok i w:=by simp[typeInfo,hi]
      have hza:=Qw (ρ:=ρ) (z:=z) (by omega) n.toNat;rw[hzl] at hza;have hbig:¬((i.bytes:Int)*n >2^48):=by
       have:(i.bytes:Int)*n=((n.toNat*i.bytes:Nat):Int):=by rw[Int.natCast_mul,zxD hn0,Int.mul_comm]
       rw[this];omega
      have hneg:¬(n<0):=by omega
      simp only[Instr.makeSlice,zu5,run_underlying ht,zuT,c0,asInt,asIntOf,zvg,hty,hwrap];have hcond:((decide (n<0)||decide ((i.bytes:Int)*n >2^48))||decide (n<0)||decide (n >n))=false:=by simp only[hneg,hbig,decide_false,Bool.or_false,gt_iff_lt,Int.lt_irrefl]
      rw[zuQ (by rw[hcond];decide)];simp only[zu5,run_askRoom,zuT,zP hi,Sem.run_ite,zvg];by_cases c0':n.toNat*i.size=0
      ·have hz0:n.toNat=0:=by
        rcases Nat.mul_eq_zero.1 c0' with h|h
        ·exact h
        ·omega
       have hr:∀f:Nat→Value,(Array.range (n.toNat*i.size)).map f= #[]:=fun f=>zwo (by simp[c0']);rw[zuO c0'];simp only[zu5,zvg,zuT,hr];have hrep:rep n.toNat z=[]:=zvU (by rw[ZW,hz0,zvP]);rw[hrep];simp[newRow,cv,c0,adr,zu,zxD hn0]
      ·rw[zuQ c0'];simp only[zu5,yU hi hu,zuT,zvg,hcell,hza];simp[newRow,cv,c0,adr,zu]
     ·refine R.alloc e _ (rep n.toNat z) n.toNat ?_ ?_ ?_ (zjP (hwf _))
      ·rw[hP];simp[ZW,hzl]
      ·rw[hP,ZW,hzl];exact zuL _
      ·intro j x hj;simp[hj]
     ·simp only[wfV,wf,zu,zuM,zuS];omega
    ·exfalso;apply hwrap;have:n.toNat≤140737488355328:=by
      have:=zxk n.toNat (show 1≤i.bytes by omega);omega
     exact zo7 hn0 (by omega)
   ·cases he
  ·cases he
 ·cases he
theorem zdj{s:TypeId}{f:Nat}{g:Field}(h:QC P s f=some g):∃fs,P.underlying s=some (.struct fs)∧fs[f]? =some g:=by
 unfold QC at h;split at h
 ·rename_i fs hu;exact⟨fs,hu,h⟩
 ·cases h
theorem zs8(R:Rel P w0 ρ h w)(hF:FrR ρ h.length N fr a){s:TypeId}{f:Nat}{g:Field}{i:TypeInfo}(hf:QC P s f=some g)(hi:P.info? g.type=some i)(h0:0<i.size){x:Operand}{y:OD}(hx:zi x=some y){v:FV}{h':LH}(he:opE fr h (.fad g.offset y)=some (v,h')):
 Res P w0 ρ h w (do pure (Next.value (←Instr.fieldAt s (a.eval x) f))) v h':=by
 simp only[opE] at he;split at he
 ·rename_i j o hj;simp only[zuE,zuH] at he;obtain⟨rfl,rfl⟩:=he;obtain⟨e1,e2⟩:=zh hF hx hj;obtain⟨fs,hu,hg⟩:=zdj hf;refine Res.val R ?_ e2;rw[e1];have hz:¬(i.size=0):=by omega
  simp only[Instr.fieldAt,zu5,run_underlying hu,zuT,hg,c0,Instr.sureAddr,zvg,fieldPlace,zP hi,hz,if_false,Addr.add_mid,cv,zwd]
 ·cases he
theorem zta(R:Rel P w0 ρ h w)(hF:FrR ρ h.length N fr a){s:TypeId}{f:Nat}{g:Field}{q:Bool}{n:Nat}(hf:QC P s f=some g)(ht:QX P g.type=some (q,n)){x:Operand}{y:OD}(hx:zi x=some y){v:FV}{h':LH}(he:opE fr h (.fld q g.offset n y)=some (v,h')):
 Res P w0 ρ h w (do pure (Next.value (←Instr.field s (a.eval x) f))) v h':=by
 simp only[opE] at he;split at he
 ·rename_i l hl;obtain⟨e1,e2⟩:=ja hF hx hl;obtain⟨fs,hu,hg⟩:=zdj hf;cases q with
  |true=>
   rw[zuO rfl] at he;split at he
   ·rename_i hle;simp only[zuE,zuH] at he;obtain⟨rfl,rfl⟩:=he;obtain⟨⟨d,hud,hd⟩,hn⟩:=QO ht;refine Res.val R ?_ (fun u hu'=>e2 u (zwn (zvM hu')));rw[e1];have hagg:(isAgg g.type).run P w= .ok true w:=by
     unfold isAgg;rw[zu5,run_underlying hud w];cases d<;>simp_all
    cases hq:P.info? g.type with
    |none=>simp[hq] at hn
    |some i=>
     have hs:i.size=n:=by simpa[hq] using hn
     simp only[Instr.field,zu5,run_underlying hu,zuT,hg,cv,asAgg,zvg,part,hagg,if_true,zP hq,hs];congr 2;apply zxl;simp[zwV,List.map_drop,List.take_drop]
   ·cases he
  |false=>
   rw[zuQ (by decide)] at he;split at he
   ·rename_i u hu';simp only[zuE,zuH] at he;obtain⟨rfl,rfl⟩:=he;obtain⟨⟨d,hud,hd⟩,hn⟩:=Ji ht;refine Res.val R ?_ (e2 u (zvE hu'));rw[e1];simp only[Instr.field,zu5,run_underlying hu,zuT,hg,cv,asAgg,zvg,qj hud hd hu']
   ·cases he
 ·cases he
theorem ztg(R:Rel P w0 ρ h w)(hF:FrR ρ h.length N fr a){t e:TypeId}{i:TypeInfo}(ht:P.underlying t=some (.slice e))(hi:P.info? e=some i){x j:Operand}{y z:OD}(hx:zi x=some y)(hj:zi j=some z){v:FV}{h':LH}(he:opE fr h (.iad e i.size y z)=some (v,h')):
 Res P w0 ρ h w (do pure (Next.value (←Instr.indexAt t (a.eval x) (a.eval j)))) v h':=by
 simp only[opE] at he;split at he
 ·rename_i q p o n k m hq hk;obtain⟨e1,e2⟩:=zh hF hx hq;obtain⟨e3,_⟩:=zh hF hj hk;split at he
  ·rename_i t' vs hc;split at he
   ·rename_i htt;subst htt;split at he
    ·rename_i h0;split at he
     ·rename_i h1;simp only[zuE,zuH] at he;obtain⟨rfl,rfl⟩:=he;obtain⟨q1,q2,q3,q4⟩:=R.cells hc;rw[yr hi] at q2;simp only[wf] at e2;refine Res.val R ?_ q4;rw[e1,e3];have hb:0≤m∧m<(n:Int):=⟨h0,h1⟩
      simp only[Instr.indexAt,zu5,c0,asIntOf,zvg,zuT,run_underlying ht];rw[qA (by omega),q2];simp only[hb,and_self,if_true,zu5,zP hi,zuT,zvg,Addr.add_mid,cv,c0];rw[zvv,zwd]
     ·cases he
    ·cases he
   ·cases he
  ·cases he
 ·cases he
theorem ztf(R:Rel P w0 ρ h w)(hF:FrR ρ h.length N fr a){t e:TypeId}{n:Nat}{i:TypeInfo}(ht:P.underlying t=some (.array n e))(hn:1<n)(hi:P.info? e=some i){x j:Operand}{y z:OD}(hx:zi x=some y)(hj:zi j=some z){v:FV}{h':LH}(he:opE fr h (.iaa n i.size y z)=some (v,h')):
 Res P w0 ρ h w (do pure (Next.value (←Instr.indexAt t (a.eval x) (a.eval j)))) v h':=by
 simp only[opE] at he;split at he
 ·rename_i q o k m hq hk;obtain⟨e1,e2⟩:=zh hF hx hq;obtain⟨e3,_⟩:=zh hF hj hk;split at he
  ·rename_i h0;split at he
   ·rename_i h1;simp only[zuE,zuH] at he;obtain⟨rfl,rfl⟩:=he;refine Res.val R ?_ e2;rw[e1,e3];have hb:0≤m∧m<(n:Int):=⟨h0,h1⟩
    simp only[Instr.indexAt,zu5,c0,asIntOf,Instr.sureAddr,zvg,zuT,run_underlying ht];simp only[hb,and_self,if_true,zu5,zP hi,zuT,zvg,Addr.add_mid,cv,c0];rw[zwd]
   ·cases he
  ·cases he
 ·cases he
theorem zth(R:Rel P w0 ρ h w)(hF:FrR ρ h.length N fr a){t:TypeId}(ht:P.underlying t=some .string){x j:Operand}{y z:OD}(hx:zi x=some y)(hj:zi j=some z){v:FV}{h':LH}(he:opE fr h (.idx y z)=some (v,h')):
 Res P w0 ρ h w (do pure (Next.value (←Instr.index t (a.eval x) (a.eval j)))) v h':=by
 simp only[opE] at he;split at he
 ·rename_i s k m hs hk;obtain⟨e1,e2⟩:=zh hF hx hs;obtain⟨e3,_⟩:=zh hF hj hk;split at he
  ·rename_i h0;split at he
   ·rename_i b hb;simp only[zuE,zuH] at he;obtain⟨rfl,rfl⟩:=he;refine Res.val R ?_ trivial;rw[e1,e3];have hb':s[m.toNat]? =some b:=by
     rw[←hb];have hlt:=(zuJ.1 hb).1;have hlt':m.toNat<s.size:=by simpa using hlt
     rw[getElem?_pos s m.toNat hlt',zuV hlt];rfl
    simp only[Instr.index,zu5,c0,asIntOf,zvg,zuT,run_underlying ht,h0,if_true,hb'];rfl
   ·cases he
  ·cases he
 ·cases he
theorem zs7(R:Rel P w0 ρ h w)(hF:FrR ρ h.length N fr a){i:Nat}{x:Operand}{y:OD}(hx:zi x=some y){v:FV}{h':LH}(he:opE fr h (.ext y i)=some (v,h')):
 Res P w0 ρ h w (do pure (Next.value (←Instr.extract (a.eval x) i))) v h':=by
 simp only[opE] at he;split at he
 ·rename_i l hl;obtain⟨e1,e2⟩:=ja hF hx hl;split at he
  ·rename_i u hu;simp only[zuE,zuH] at he;obtain⟨rfl,rfl⟩:=he;have hw1:=e2 u (zvE hu);refine Res.val R ?_ (Jk hw1);rw[e1,zbs hw1];simp[Instr.extract,cv,hu]
  ·cases he
 ·cases he
theorem ztq(R:Rel P w0 ρ h w)(hF:FrR ρ h.length N fr a){t ty e:TypeId}{ts:Array TypeId}(hts:ts[0]? =some t)(ht:P.underlying t=some (.slice e)){x:Operand}{y:OD}(hx:zi x=some y){v:FV}{h':LH}(he:opE fr h (.len y)=some (v,h')):
 Res P w0 ρ h w (do pure (Next.value (←Builtin.len_ ts ty #[a.eval x]))) v h':=by
 simp only[opE] at he;split at he
 ·rename_i u hu;obtain⟨n,hn,hq⟩:=zuI.1 he;obtain⟨rfl,rfl⟩:=zuZ hq;obtain⟨e1,e2⟩:=zh hF hx hu;refine Res.val R ?_ trivial;rw[e1]
  cases u<;>simp only[zbE,zuE] at hn<;>first
   |(cases hn;done)
   |(subst hn;simp[Builtin.len_,hts,run_underlying ht,c0,goInt,cv])
 ·cases he
theorem zrj(R:Rel P w0 ρ h w)(hF:FrR ρ h.length N fr a){t ty:TypeId}{ts:Array TypeId}(hts:ts[0]? =some t)(ht:P.underlying t=some .string){x:Operand}{y:OD}(hx:zi x=some y){v:FV}{h':LH}(he:opE fr h (.slen y)=some (v,h')):
 Res P w0 ρ h w (do pure (Next.value (←Builtin.len_ ts ty #[a.eval x]))) v h':=by
 simp only[opE] at he;split at he
 ·rename_i s hs;simp only[zuE,zuH] at he;obtain⟨rfl,rfl⟩:=he;obtain⟨e1,e2⟩:=zh hF hx hs;refine Res.val R ?_ trivial;rw[e1];simp[Builtin.len_,hts,run_underlying ht,c0,goInt,cv]
 ·cases he
theorem Q5(R:Rel P w0 ρ h w){i t:Nat}{vs l:List SV}{o:Nat}(hi:h[i]? =some (.own t vs))(hl:o+l.length≤vs.length)(hw:∀v∈l,wf ρ h.length v):
 (storeCells ⟨(ρ i).blk,(ρ i).base+o,none⟩ (l.map (c0 ρ))).run P w= .ok () (w.setCells (ρ i).blk ((ρ i).base+o) (l.map (c0 ρ))):=by
 obtain⟨b1,b2,b3,b4,b5,b6,b7⟩:=R.obj i _ hi
 have:=run_storeCells_cells (P:=P) (ρ i).blk ((ρ i).base+o) (l.map (c0 ρ)) 0 w
  (fun j hj=>by rw[zu9] at hj;rw[zwa,zwd];exact(b4 (o+j) (by omega)).1)
  (fun j hj=>by rw[zu9] at hj;rw[zwa,zwd];exact(b4 (o+j) (by omega)).2) (zgA hw)
 simpa using this
theorem zqc(R:Rel P w0 ρ h w)(hF:FrR ρ h.length N fr a){t tx e e' ty:TypeId}{i:TypeInfo}{ts:Array TypeId}(hts:ts[0]? =some t)(htx:ts[1]? =some tx)(ht:P.underlying t=some (.slice e))(hk:P.underlying tx=some (.slice e'))(hi:P.info? e=some i)
 {x x':Operand} {y y':OD} (hx:zi x=some y) (hx':zi x'=some y') {v:FV} {h':LH} (he:opE fr h (.copy e i.size y y')=some (v,h')):
 Res P w0 ρ h w (do pure (Next.value (←Builtin.copy_ ts ty #[a.eval x,a.eval x']))) v h':=by
 simp only[opE] at he;split at he
 ·rename_i j p o m u hj hu;obtain⟨e1,e2⟩:=zh hF hx hj;obtain⟨e3,e4⟩:=zh hF hx' hu;split at he
  ·rename_i t' vs n new hob hn hnew;split at he
   ·rename_i htt;subst htt;split at he
    ·rename_i hle;simp only[zuE,zuH] at he;obtain⟨rfl,rfl⟩:=he;obtain⟨hs,hwn,hln⟩:=zeN (tx:=tx) R hi hk e4 hn hnew;obtain⟨b1,b2,b3,b4,b5,b6,b7⟩:=R.obj j _ hob;rw[yr hi] at b3;simp only[wf] at e2;have hwt:∀q∈new.take (min n m*i.size),wf ρ h.length q:=fun q hq=>hwn q (zvM hq);have hlt:(new.take (min n m*i.size)).length=min n m*i.size:=by
      rw[zu0,hln];have:=zvf i.size (Nat.min_le_left n m);omega
     have hmm:min n m*i.size≤m*i.size:=zvf i.size (Nat.min_le_right n m);rw[zvv] at hle;have hst:=Q5 R hob (o:=o*i.size) (l:=new.take (min n m*i.size)) (by rw[hlt];omega) hwt;refine⟨_,ρ,_,qT ?_,.inl rfl,R.store hob (o:=o*i.size) (l:=new.take (min n m*i.size)) (by rw[hlt];omega) hwt,Ext.refl _ _,by rw[zvi];exact zuL _,trivial⟩;rw[e1,e3];have hfirst:(Builtin.firstCells i.size (min n m) (c0 ρ u)).run P w= .ok ((new.take (min n m*i.size)).map (c0 ρ)).toArray w:=by
      cases u<;>simp only[zbE,zuE] at hn<;>first
       |(cases hn;done)
       |skip
      case nils=>
       subst hn;simp only[j6,zuE] at hnew;subst hnew;simp[Builtin.firstCells,c0]
      case sl0 q1 q2 q3=>
       subst hn;simp only[j6,zuE] at hnew;subst hnew;simp only[c0];have:=run_firstCells_some (P:=P) w i.size 0 (adr (ρ q1) q2 q3) 0 0 [] (by simp) (by simp);simpa using this
      case sl q1 q2 q3 q4=>
       subst hn;simp only[c0];refine run_firstCells_some (P:=P) w i.size (min q4 m) _ q4 _ _ (by rw[zu9,hlt]) ?_;intro k c hc;rcases Nat.eq_zero_or_pos q4 with h0|hp
       ·rw[h0] at hc;simp at hc
       ·obtain⟨q4',rfl⟩:∃r,q4=r+1:=⟨q4-1,by omega⟩
        simp only[j6] at hnew;split at hnew
        ·rename_i t2 vs2 hc2;split at hnew
         ·rename_i ht2;split at hnew
          ·rename_i hle2;obtain rfl:=zuG hnew;subst ht2;obtain⟨r1,r2,r3,r4⟩:=R.cells hc2;rw[yr hi] at r2;simp only[wf] at e4;rw[qA (by omega),Addr.add_mid,r2];rw[zwI,←J6] at hc;exact qM r1 (q3*i.size) _ k c hc
          ·cases hnew
         ·cases hnew
        ·cases hnew
     have hlen:(Builtin.lenOf (c0 ρ u)).run P w= .ok n w:=hs.len w;have hst':(storeCells (adr (ρ j) p o) ((new.take (min n m*i.size)).map (c0 ρ))).run P w= .ok () (w.setCells (ρ j).blk ((ρ j).base+o*i.size) ((new.take (min n m*i.size)).map (c0 ρ))):=by
      rcases Nat.eq_zero_or_pos m with hm|hm
      ·have h0:new.take (min n m*i.size)=[]:=zvU (by rw[hlt,hm,Nat.min_zero,zvP]);rw[h0];rfl
      ·rw[qA (by omega),b3];exact hst
     rw[show c0 ρ (.sl j p o m)= .slice (some (adr (ρ j) p o)) m ((ρ j).cap-o) from rfl];simp only[Builtin.copy_,zu5,run_underlying ht,zuT,hts,zw6,zvt,zvL,zP hi,hlen];rw[show Nat.min n m=min n m from rfl,hfirst];simp only[zuT,hst',zu5,zvg];rfl
    ·cases he
   ·cases he
  ·cases he
 ·cases he
end
end
section
variable {P:Program} {w0:Base}
section
variable {ρ:Nat→Ph} {h:LH} {w:World} {N:Nat} {fr:Fr} {a:Act}
theorem ztZ(R:Rel P w0 ρ h w)(hF:FrR ρ h.length N fr a){t:TypeId}(ht:P.underlying t=some .string){x:Operand}{y:OD}(hx:zi x=some y){v:FV}{h':LH}(he:opE fr h (.rng y)=some (v,h')):
 Res P w0 ρ h w (do pure (Next.value (←Instr.range t (a.eval x)))) v h':=by
 simp only[opE] at he;split at he
 ·rename_i s hs;simp only[zuE,zuH] at he;obtain⟨rfl,rfl⟩:=he;obtain⟨e1,e2⟩:=zh hF hx hs;refine⟨_,upd ρ h.length ⟨w.heap.size,0,1,1,undef⟩,w.iter s 0,qT (by rw[e1];exact run_range_string w t s ht),.inl ?_,?_,yx _ _ _,by simp,by simp[wfV,wf]⟩
  ·simp[cv,c0,zu]
  ·refine R.newBlk _ _ rfl ((Below.refl _ _).alloc R.size _) (fun _=>zuL _) ?_ (fun k hk=>Below.heap_alloc _ _ _ hk) ?_
   ·show(w.heap.push _).size=_;rw[zwQ]
   ·exact⟨R.size,by show _<(w.heap.push _).size;rw[zwQ];exact zwG _,rfl,World.iter_heap w s 0⟩
 ·cases he
theorem zea{o:Obj}{s:ByteArray}{p r:Nat}(hb:w.heap[r]? =some (.stringIter s p)):(setObj r o).run P w= .ok () {w with heap:=w.heap.setIfInBounds r o}:=by simp[setObj,Sem.run,hb]
theorem Qj{s:ByteArray}{p r:Nat}(hb:w.heap[r]? =some (.stringIter s p)):(getObj r).run P w= .ok (.stringIter s p) w:=by simp[getObj,Sem.run,hb]
theorem zeD{B b:Nat}(hB:B≤b)(o:Obj):Below B w {w with heap:=w.heap.setIfInBounds b o}:=
 ⟨rfl,rfl,rfl,by simp,fun k hk=>by simp only;rw[zwy (by omega)]⟩
theorem Rel.setObj(R:Rel P w0 ρ h w){i:Nat}{o o':LO}(hi:h[i]? =some o)(hh:o.holds=true)(hlow:w0.B≤(ρ i).blk)(hh':o'.holds=true)(b:Obj)
 (ho:Q7 P w0.B ρ h.length (ρ i) {w with heap:=w.heap.setIfInBounds (ρ i).blk b} o'):Rel P w0 ρ (h.set i o') {w with heap:=w.heap.setIfInBounds (ρ i).blk b}:=
 R.setBlk hi hh (zeD hlow b) (fun _=>zuL _) (by simp) (fun k hk=>by simp only;rw[zwy (fun e=>hk e.symm)]) hlow hh' ho
theorem ztO(R:Rel P w0 ρ h w)(hF:FrR ρ h.length N fr a){ty:TypeId}{x:Operand}{y:OD}(hx:zi x=some y){v:FV}{h':LH}(he:opE fr h (.nxt y)=some (v,h')):
 Res P w0 ρ h w (do pure (Next.value (←Instr.next (a.eval x) true ty))) v h':=by
 simp only[opE] at he;split at he
 ·rename_i i hs;obtain⟨e1,e2⟩:=zh hF hx hs;split at he
  ·rename_i s pos hi;obtain⟨b1,b2,b3,b4⟩:=R.obj i _ hi;have ec:c0 ρ (.ptr i 0)= .pointer (some ⟨(ρ i).blk,0,none⟩):=by simp[c0,b3]
   split at he
   ·rename_i b hb;split at he
    ·rename_i ha;simp only[zuE,zuH] at he;obtain⟨rfl,rfl⟩:=he;have hp:pos<s.size:=by
      have:=(zuJ.1 hb).1;simpa using this
     have hb':s[pos]'hp=b:=by have:=(zuJ.1 hb).2;simp only[Array.getElem_toList] at this;exact this
     refine⟨_,ρ,{w with heap:=w.heap.setIfInBounds (ρ i).blk (.stringIter s (pos+1))},qT ?_,.inl rfl,?_,Ext.refl _ _,by simp,fun u hu=> ?_⟩
     ·rw[e1,ec];simp only[Instr.next,zu5,Qj b4,zuT,hp,if_true,decode_ascii s pos hp (by rw[hb'];exact ha),zea b4,zvg,hb'];rfl
     ·refine R.setObj hi rfl b1 rfl _ ⟨b1,by simp;exact b2,b3,?_⟩;simp only[zwh b2]
     ·simp only[zuX,zvS,or_false] at hu;rcases hu with rfl|rfl|rfl<;>trivial
    ·cases he
   ·rename_i hb;simp only[zuE,zuH] at he;obtain⟨rfl,rfl⟩:=he;have hp:¬pos<s.size:=by
     have:=zxe.1 hb;simp at this;omega
    refine Res.val R ?_ (fun u hu=>by
     simp only[zuX,zvS,or_false] at hu;subst hu;trivial)
    rw[e1,ec];simp only[Instr.next,zu5,Qj b4,zuT,hp,if_false,zvg];rfl
  ·cases he
 ·cases he
theorem ztD(R:Rel P w0 ρ h w){t:TypeId}{v:FV}{h':LH}(he:opE fr h .mkm=some (v,h')):Res P w0 ρ h w (do pure (Next.value (←Instr.makeMap t none))) v h':=by
 simp only[opE,zuE,zuH] at he;obtain⟨rfl,rfl⟩:=he;refine⟨_,upd ρ h.length ⟨w.heap.size,0,1,1,undef⟩,w.alloc (.map #[] 0),qT (x:= .map (some w.heap.size)) (by simp[Instr.makeMap]),.inl ?_,?_,yx _ _ _,by simp,by simp[wfV,wf]⟩
 ·simp[cv,c0,zu]
 ·refine R.newBlk _ _ rfl ((Below.refl _ _).alloc R.size _) (fun _=>zuL _) ?_ (fun k hk=>Below.heap_alloc _ _ _ hk) ?_
  ·show(w.heap.push _).size=_;rw[zwQ]
  ·refine⟨R.size,by show _<(w.heap.push _).size;rw[zwQ];exact zwG _,⟨#[],?_,rfl,rfl⟩,fun x hx=>by cases hx⟩;show(w.heap.push (Obj.map #[] 0))[w.heap.size]? =_;simp
theorem zhK{t e:TypeId}{q:Bool}(hm:zdN P t=some (q,e)):∃k d,P.underlying t=some (.map k e)∧P.underlying k=some d∧((q=false∧∃i,d= .int i)∨(q=true∧d= .string)):=by
 unfold zdN at hm;split at hm
 ·rename_i k e' ht;split at hm
  ·rename_i i hk;obtain⟨rfl,rfl⟩:=zuZ (zuG hm);exact⟨k,_,ht,hk,.inl ⟨rfl,i,rfl⟩⟩
  ·rename_i hk;obtain⟨rfl,rfl⟩:=zuZ (zuG hm);exact⟨k,_,ht,hk,.inr ⟨rfl,rfl⟩⟩
  ·cases hm
 ·cases hm
theorem zeF{k:TypeId}{d:TypeDesc}{q:Bool}(hk:P.underlying k=some d)(hq:(q=false∧∃i,d= .int i)∨(q=true∧d= .string)){u:SV}(hu:Jr q u=true)(em:Bool):
 (Instr.checkKey em 10000 k (c0 ρ u)).run P w= .ok () w:=by
 rw[show(10000:Nat)=9999+1 from rfl];unfold Instr.checkKey;simp only[zu5,run_underlying hk,zuT]
 rcases hq with⟨rfl,i,rfl⟩|⟨rfl,rfl⟩<;>cases u<;>first
  |rfl
  |cases hu
theorem zbb{d:TypeDesc}{q:Bool}(hq:(q=false∧∃i,d= .int i)∨(q=true∧d= .string)){u v:SV}(hu:Jr q u=true){b:Bool}(hb:zcd u v=some b):Instr.sameNow d (c0 ρ u) (c0 ρ v)=some b:=by rcases hq with⟨rfl,i,rfl⟩|⟨rfl,rfl⟩<;>cases u<;>(try (cases hu;done))<;>cases v<;>simp only[zcd] at hb<;>(try (cases hb;done))<;>simp only[c0,Instr.sameNow]<;>exact hb
theorem zhj{d:TypeDesc}{q:Bool}(hq:(q=false∧∃i,d= .int i)∨(q=true∧d= .string)){u:SV}(hu:Jr q u=true):∀(es:List (SV×SV)) (ms:List MapEntry) (i:Nat) (r:Option SV),(ms.map fun e=>(e.key,e.val))=(es.map fun x=>(c0 ρ x.1,c0 ρ x.2))→getM u es=some r→
 ∃o,Instr.findNow d (c0 ρ u) ms i=some o∧o.map (·.2)=r.map (c0 ρ)
 |[],[],i,r,_,hg=>by
  obtain rfl:=zuG hg;exact⟨none,rfl,rfl⟩
 |[],_::_,_,_,hm,_=>by cases hm
 |_::_,[],_,_,hm,_=>by cases hm
 |e::es,m::ms,i,r,hm,hg=>by
  simp only[zu2,List.cons.injEq,zuH] at hm;obtain⟨⟨m1,m2⟩,m3⟩:=hm;simp only[getM] at hg;split at hg
  ·rename_i hk;obtain rfl:=zuG hg;refine⟨some (i,m.val),?_,by simp[m2]⟩;simp only[Instr.findNow,m1,zbb hq hu hk]
  ·rename_i hk;obtain⟨o,h1,h2⟩:=zhj hq hu es ms (i+1) r m3 hg;refine⟨o,?_,h2⟩;simp only[Instr.findNow,m1,zbb hq hu hk];exact h1
  ·cases hg
theorem yj(a b:ByteArray):(a==b)=decide (a=b):=by show ByteArray.beq a b=_;unfold ByteArray.beq;obtain⟨a⟩:=a;obtain⟨b⟩:=b;rw[zxC];simp
theorem znS{q:Bool}{u v:SV}(hu:Jr q u=true)(hb:zcd u v=some true):Instr.sameBits 10000 (c0 ρ v) (c0 ρ u)=true:=by
 cases u<;>(try (cases hu;done))<;>cases v<;>simp only[zcd] at hb<;>(try (cases hb;done))
 ·split at hb
  ·rename_i hk;simp only[zuE,zwf] at hb;subst hk;subst hb;simp[c0,Instr.sameBits]
  ·cases hb
 ·simp only[zuE,yj,zuW] at hb;subst hb;simp[c0,Instr.sameBits,yj]
theorem zhl{d:TypeDesc}{q:Bool}(hq:(q=false∧∃i,d= .int i)∨(q=true∧d= .string)){u v:SV}(hu:Jr q u=true):∀(es:List (SV×SV)) (ms:List MapEntry) (i:Nat) (es':List (SV×SV)),(ms.map fun e=>(e.key,e.val))=(es.map fun x=>(c0 ρ x.1,c0 ρ x.2))→zgD u v es=some es'→
 ∃o,Instr.findNow d (c0 ρ u) ms i=some o∧((o=none∧es'=es++[(u,v)])∨∃j y,o=some (i+j,y)∧∃m,ms[j]? =some m∧Instr.sameBits 10000 m.key (c0 ρ u)=true∧es'=es.set j (u,v))
 |[],[],i,es',_,hg=>by
  obtain rfl:=zuG hg;exact⟨none,rfl,.inl ⟨rfl,rfl⟩⟩
 |[],_::_,_,_,hm,_=>by cases hm
 |_::_,[],_,_,hm,_=>by cases hm
 |e::es,m::ms,i,es',hm,hg=>by
  simp only[zu2,List.cons.injEq,zuH] at hm;obtain⟨⟨m1,m2⟩,m3⟩:=hm;simp only[zgD] at hg;split at hg
  ·rename_i hk;obtain rfl:=zuG hg;refine⟨some (i,m.val),?_,.inr ⟨0,m.val,rfl,m,rfl,?_,rfl⟩⟩
   ·simp only[Instr.findNow,m1,zbb hq hu hk]
   ·rw[m1];exact znS hu hk
  ·rename_i hk;obtain⟨es1,hg1,rfl⟩:=zuI.1 hg;obtain⟨o,h1,h2⟩:=zhl hq hu es ms (i+1) es1 m3 hg1;refine⟨o,?_,?_⟩
   ·simp only[Instr.findNow,m1,zbb hq hu hk];exact h1
   ·rcases h2 with⟨q0,q1⟩|⟨j,y,q0,m',q1,q2,q3⟩
    ·exact .inl ⟨q0,by rw[q1];rfl⟩
    ·exact .inr ⟨j+1,y,by rw[q0,show i+1+j=i+(j+1) by omega],m',q1,q2,by rw[q3];rfl⟩
  ·cases hg
theorem zkU{u v:SV}:∀{es es':List (SV×SV)},zgD u v es=some es'→∀x∈es',x∈es∨x=(u,v)
 |[],es',hg,x,hx=>by
  simp only[zgD,zuE] at hg;subst hg;exact .inr (zvm.1 hx)
 |e::es,es',hg,x,hx=>by
  simp only[zgD] at hg;split at hg
  ·simp only[zuE] at hg;subst hg;rcases zuX.1 hx with rfl|hx
   ·exact .inr rfl
   ·exact .inl (zvD _ hx)
  ·obtain⟨es1,hg1,rfl⟩:=zuI.1 hg;rcases zuX.1 hx with rfl|hx
   ·exact .inl zvT
   ·exact(zkU hg1 x hx).imp (zvD _) id
  ·cases hg
theorem zgc{u:SV}:∀{es:List (SV×SV)} {v:SV},getM u es=some (some v)→∃x∈es,x.2=v
 |[],v,hg=>by cases hg
 |e::es,v,hg=>by
  simp only[getM] at hg;split at hg
  ·simp only[zuE] at hg;exact⟨e,zvT,hg⟩
  ·obtain⟨x,h1,h2⟩:=zgc hg;exact⟨x,zvD _ h1,h2⟩
  ·cases hg
theorem zkE(R:Rel P w0 ρ h w)(hF:FrR ρ h.length N fr a){t e:TypeId}{q:Bool}(ht:zdN P t=some (q,e)){m k x:Operand}{m' k' y:OD}(hm:zi m=some m')(hk:zi k=some k')(hx:zi x=some y){v:FV}{h':LH}(he:opE fr h (.mput q m' k' y)=some (v,h')):
 Res P w0 ρ h w (do Instr.mapUpdate t (a.eval m) (a.eval k) (a.eval x);pure Next.skip) v h':=by
 simp only[opE] at he;split at he
 ·rename_i i u z h1 h2 h3;split at he
  ·rename_i es hi;split at he
   ·rename_i hk';rw[zuP] at hk';obtain⟨es',hp,hq⟩:=zuI.1 he;obtain⟨rfl,rfl⟩:=zuZ hq;obtain⟨e1,_⟩:=zh hF hm h1;obtain⟨e2,_⟩:=zh hF hk h2;obtain⟨e3,_⟩:=zh hF hx h3;obtain⟨b1,b2,⟨ms,b3,b4,b6⟩,b5⟩:=R.obj i _ hi;obtain⟨kt,d,t1,t2,t3⟩:=zhK ht;have emp:c0 ρ (.mp i)= .map (some (ρ i).blk):=rfl;obtain⟨o,f1,f2⟩:=zhl (ρ:=ρ) t3 hk'.1 es ms.toList 0 es' b4 hp;have hck:=zeF (ρ:=ρ) (w:=w) t2 t3 hk'.1 false;have hfk:(Instr.findKey kt (c0 ρ u) ms.toList).run P w= .ok o w:=by
     simp only[Instr.findKey,zu5,run_underlying t2,zuT,f1,zvg]
    have hmem:∀x∈es',(∃q,Jr q x.1=true)∧nlS x.2=true:=fun x hx=>(zkU hp x hx).elim (b5 x) fun e=>by subst e;exact⟨⟨q,hk'.1⟩,hk'.2⟩
    have fin:∀(ms':Array MapEntry),(ms'.toList.map fun e=>(e.key,e.val))=(es'.map fun x=>(c0 ρ x.1,c0 ρ x.2))→ms'.toList.map (·.born)=List.range ms'.size→
     (Instr.mapUpdate t (c0 ρ (.mp i)) (c0 ρ u) (c0 ρ z)).run P w= .ok () {w with heap:=w.heap.setIfInBounds (ρ i).blk (.map ms' ms'.size)}→
     Res P w0 ρ h w (do Instr.mapUpdate t (a.eval m) (a.eval k) (a.eval x);pure Next.skip) (.tup []) (h.set i (.map es')):=by
     intro ms' hl hbn hr;refine⟨.skip,ρ,_,?_,.inr ⟨rfl,rfl⟩,R.setObj hi rfl b1 rfl (.map ms' ms'.size) ⟨b1,by simp;exact b2,⟨ms',by simp only[zwh b2],hl,hbn⟩,hmem⟩,Ext.refl _ _,by rw[zvi];exact zuL _,fun v hv=>by cases hv⟩;rw[e1,e2,e3];simp only[zu5,hr,zuT,zvg]
    rcases f2 with⟨rfl,rfl⟩|⟨j,y',rfl,m1,q1,q2,rfl⟩
    ·refine fin (ms.push {key:=c0 ρ u,val:=c0 ρ z,born:=ms.size}) (by simp[b4]) (by simp[b6,zx0]) ?_;rw[zwQ];simp only[Instr.mapUpdate,zu5,run_underlying t1,zuT,emp,MapKept.run_getObj_map b3,hck,hfk,MapKept.run_setObj_map _ b3]
    ·have hget:ms[j]? =some m1:=by rw[←q1];simp
     refine fin (ms.modify j fun e=>{e with key:=c0 ρ u,val:=c0 ρ z}) ?_ ?_ ?_
     ·have hj:j<ms.size:=(zwb.1 hget).1;rw[Array.toList_modify,List.map_set,←b4];apply zv0;intro n;rw[zvC,List.getElem?_modify];by_cases hn:j=n
      ·subst hn;simp[hj]
      ·rw[zuR hn,zvC];simp[hn]
     ·rw[Array.size_modify,←b6,Array.toList_modify];apply zv0;intro n;rw[zvC,List.getElem?_modify,zvC];by_cases hn:j=n
      ·subst hn;cases ms.toList[j]? <;>simp
      ·simp[hn]
     ·rw[Array.size_modify];have hstay:(Instr.keyThatStays m1.key (c0 ρ u)).run P w= .ok (c0 ρ u) w:=by
       unfold Instr.keyThatStays;rw[zuO q2];rfl
      simp only[zvn] at hfk;simp only[Instr.mapUpdate,zu5,run_underlying t1,zuT,emp,MapKept.run_getObj_map b3,hck,hfk,hget,zvb,zwH,hstay,MapKept.run_setObj_map _ b3]
   ·cases he
  ·cases he
 ·cases he
theorem zqN(R:Rel P w0 ρ h w)(hF:FrR ρ h.length N fr a){t e:TypeId}{q ok:Bool}{z:SV}(ht:zdN P t=some (q,e))(hz:zpK P e=some z)(hzn:nlS z=true){m k:Operand}{m' k':OD}(hm:zi m=some m')(hk:zi k=some k'){v:FV}{h':LH}(he:opE fr h (.mget q ok z m' k')=some (v,h')):
 Res P w0 ρ h w (do pure (Next.value (←Instr.lookup t (a.eval m) (a.eval k) ok))) v h':=by
 simp only[opE] at he;split at he
 ·rename_i i u h1 h2;split at he
  ·rename_i es hi;split at he
   ·rename_i hk';split at he
    ·rename_i r hg;obtain⟨rfl,rfl⟩:=zuZ (zuG he);obtain⟨e1,_⟩:=zh hF hm h1;obtain⟨e2,_⟩:=zh hF hk h2;obtain⟨b1,b2,⟨ms,b3,b4,b6⟩,b5⟩:=R.obj i _ hi;obtain⟨kt,d,t1,t2,t3⟩:=zhK ht;have emp:c0 ρ (.mp i)= .map (some (ρ i).blk):=rfl;obtain⟨o,f1,f2⟩:=zhj (ρ:=ρ) t3 hk' es ms.toList 0 r b4 hg;have hck:=zeF (ρ:=ρ) (w:=w) t2 t3 hk' ms.isEmpty;have hfk:(Instr.findKey kt (c0 ρ u) ms.toList).run P w= .ok o w:=by
      simp only[Instr.findKey,zu5,run_underlying t2,zuT,f1,zvg]
     have hzv:(zeroValue e).run P w= .ok (c0 ρ z) w:=by unfold zpK at hz;obtain⟨u0,hu0,hz⟩:=zuU.1 hz;obtain⟨i0,hi0,hu0⟩:=zuU.1 hu0;rw[zfG hz];exact yU hi0 hu0
     have hnl:nlS (r.getD z)=true:=by
      cases r with
      |none=>exact hzn
      |some v=>
       obtain⟨x,x1,rfl⟩:=zgc hg;exact(b5 x x1).2
     have hrun:(Instr.lookup t (c0 ρ (.mp i)) (c0 ρ u) ok).run P w= .ok (if ok then .tuple #[c0 ρ (r.getD z),.bool r.isSome] else c0 ρ (r.getD z)) w:=by
      cases r with
      |none=>
       simp only[Option.map_none,Option.map_eq_none_iff] at f2;subst f2;simp only[Instr.lookup,zu5,run_underlying t1,zuT,emp,MapKept.run_getObj_map b3,zvg,hck,hfk,hzv,Option.getD_none,zxN]
      |some v=>
       obtain⟨⟨n,y⟩,rfl,hy⟩:=zuI.1 f2;simp only at hy;subst hy;simp only[Instr.lookup,zu5,run_underlying t1,zuT,emp,MapKept.run_getObj_map b3,zvg,hck,hfk,zwH,Option.isSome_some]
     refine Res.val R ?_ ?_
     ·rw[e1,e2,hrun];cases ok<;>rfl
     ·cases ok
      ·exact J8 hnl
      ·intro x hx;simp only[if_true,zuX,zvS,or_false] at hx;rcases hx with rfl|rfl
       ·exact J8 hnl
       ·trivial
    ·cases he
   ·cases he
  ·cases he
 ·cases he
theorem zqS(R:Rel P w0 ρ h w)(hF:FrR ρ h.length N fr a){ts:Array TypeId}{ty t k e:TypeId}(hts:ts[0]? =some t)(ht:P.underlying t=some (.map k e)){x:Operand}{y:OD}(hx:zi x=some y){v:FV}{h':LH}(he:opE fr h (.mlen y)=some (v,h')):
 Res P w0 ρ h w (do pure (Next.value (←Builtin.len_ ts ty #[a.eval x]))) v h':=by
 simp only[opE] at he;split at he
 ·rename_i i hs;split at he
  ·rename_i es hi;obtain⟨rfl,rfl⟩:=zuZ (zuG he);obtain⟨e1,_⟩:=zh hF hx hs;obtain⟨b1,b2,⟨ms,b3,b4,b6⟩,b5⟩:=R.obj i _ hi;refine Res.val R ?_ trivial;have emp:c0 ρ (.mp i)= .map (some (ρ i).blk):=rfl;have hl:ms.size=es.length:=by
    have:=congrArg List.length b4;simpa using this
   rw[e1];simp only[Builtin.len_,hts,zw6,zvt,zu5,run_underlying ht,zuT,emp,MapKept.run_getObj_map b3,zvg,hl];rfl
  ·cases he
 ·cases he
theorem s2b_ok(R:Rel P w0 ρ h w)(hF:FrR ρ h.length N fr a){src dst e:TypeId}{i:TypeInfo}(hs:P.underlying src=some .string)(hd:P.underlying dst=some (.slice e))(he8:P.underlying e=some (.int .u8))(hi:P.info? e=some i)(h1:i.size=1)
 {x:Operand} {y:OD} (hx:zi x=some y) {v:FV} {h':LH} (he:opE fr h (.s2b e y)=some (v,h')):Res P w0 ρ h w (do pure (Next.value (←convert src dst (a.eval x)))) v h':=by
 simp only[opE] at he;split at he
 ·rename_i s hsy;obtain⟨rfl,rfl⟩:=zuZ (zuG he);obtain⟨e1,_⟩:=zh hF hx hsy;have hP:P.cellsOf e=1:=by unfold Program.cellsOf;rw[hi];simp[h1]
  have hge:s.size≤grownCap w s.size 0 e:=zaR;have hcs:(Lib.bytesCells w e s).size=grownCap w s.size 0 e:=by simp[Lib.bytesCells];omega
  have hlen:(yP s).length=s.size:=by simp[yP]
  refine⟨_,upd ρ h.length ⟨w.heap.size,0,1,grownCap w s.size 0 e,undef⟩,Lib.bytesWorld w e s,qT (by rw[e1];exact Lib.run_convert_string_bytes w src dst e s hs hd he8),.inl ?_,?_,yx _ _ _,by simp,?_⟩
  ·simp[cv,c0,zu,adr]
  ·refine R.newBlk _ _ rfl ⟨rfl,rfl,rfl,by rw[Lib.bytesWorld_size];omega,fun k hk=>Lib.bytesWorld_at_old w e s k (zvB hk R.size)⟩ (fun _=>show w.drawn≤(Lib.bytesWorld w e s).drawn from zw8 w.drawn) (Lib.bytesWorld_size w e s) (fun k hk=>Lib.bytesWorld_at_old w e s k hk) ?_;refine⟨R.size,by rw[Lib.bytesWorld_size];exact zwG _,hP.symm,fun j hj=> ?_,fun j v hv=> ?_,by rw[hlen];simp only;omega,fun v hv=> ?_⟩
   ·simp only[zxS] at hj;simp only[zvn];refine⟨?_,?_⟩
    ·simp only[World.cell?,Lib.bytesWorld_at_new];rw[zvy (by rw[hcs];exact hj)];rfl
    ·simp only[World.frozen?,Lib.bytesWorld_at_new,hcs];simp;omega
   ·simp only[zvn];rw[zvC] at hv;obtain⟨u,hu,rfl⟩:=zuI.1 hv;have hj:j<s.size:=by rw[←hlen];exact(zuJ.1 hu).1
    rw[Lib.bytesWorld_cell w e s j hj];simp only[yP,zvC] at hu;obtain⟨b,hb,rfl⟩:=zuI.1 hu;simp[List.getD,hb,c0]
   ·simp only[yP] at hv;obtain⟨b,_,rfl⟩:=zvV.1 hv;trivial
  ·simp only[wfV,wf,zu,zuM,zuS];omega
 ·cases he
end
end
section
variable {P:Program} {w0:Base}
section
variable {ρ:Nat→Ph} {h:LH} {w:World} {N:Nat} {fr:Fr} {a:Act}
theorem zsQ(R:Rel P w0 ρ h w)(hF:FrR ρ h.length N fr a){t e ty:TypeId}{i:TypeInfo}{z:List SV}{ts:Array TypeId}(hts:ts[0]? =some t)(ht:P.underlying t=some (.slice e))(hi:P.info? e=some i)(hz:Ya P e=some z)(h0:0<i.size)(hzl:z.length=i.size)
 {x:Operand} {y:OD} (hx:zi x=some y) {v:FV} {h':LH} (he:opE fr h (.clr e z y)=some (v,h')):
 Res P w0 ρ h w (do pure (Next.value (←Builtin.clear_ ts ty #[a.eval x]))) v h':=by
 simp only[opE] at he;split at he
 ·rename_i hs;simp only[zuE,zuH] at he;obtain⟨rfl,rfl⟩:=he;obtain⟨e1,e2⟩:=zh hF hx hs;refine Res.val R ?_ (fun v hv=>by cases hv);rw[e1];simp[Builtin.clear_,hts,run_underlying ht,c0,cv]
 ·rename_i j p o hs;simp only[zuE,zuH] at he;obtain⟨rfl,rfl⟩:=he;obtain⟨e1,e2⟩:=zh hF hx hs;refine Res.val R ?_ (fun v hv=>by cases hv);rw[e1];simp[Builtin.clear_,hts,run_underlying ht,c0,cv]
 ·rename_i j p o n hn hs;obtain⟨e1,e2⟩:=zh hF hx hs;split at he
  ·rename_i t' vs hob;split at he
   ·rename_i htt;subst htt;split at he
    ·rename_i hle;simp only[zuE,zuH] at he;obtain⟨rfl,rfl⟩:=he;obtain⟨i',u,hi',hu,hcell,hwf⟩:=ZD hz ρ;rw[hi] at hi';obtain rfl:=zuG hi';obtain⟨b1,b2,b3,b4,b5,b6,b7⟩:=R.obj j _ hob;rw[yr hi] at b3;simp only[wf] at e2;have hn0:0<n:=zxp (fun e=>by subst e;exact hn rfl);have hle':=hle;rw[zvv] at hle';have hrl:o*z.length+(rep n z).length≤vs.length:=by rw[ZW];omega
     have hwz:∀q∈rep n z,wf ρ h.length q:=zjP (hwf _);have hst:=Q5 R hob (o:=o*z.length) (l:=rep n z) hrl hwz;refine⟨_,ρ,_,qT ?_,.inl rfl,R.store hob (o:=o*z.length) (l:=rep n z) hrl hwz,Ext.refl _ _,by rw[zvi];exact zuL _,fun v hv=>by cases hv⟩;rw[e1];have hza:=Qw (ρ:=ρ) (z:=z) (by omega) n;have hzc:(Builtin.zeroCells u.cells n).toList=(rep n z).map (c0 ρ):=by rw[show Builtin.zeroCells u.cells n=((rep n z).map (c0 ρ)).toArray from ?_];rw[hcell];rw[←hza];simp[Builtin.zeroCells]
     have hadr:adr (ρ j) p o=⟨(ρ j).blk,(ρ j).base+o*z.length,none⟩:=by rw[qA (by omega),b3,hzl]
     have hc:c0 ρ (.sl j p o n)= .slice (some (adr (ρ j) p o)) n ((ρ j).cap-o):=rfl;rw[hc,hadr];obtain⟨n',rfl⟩:∃n',n=n'+1:=⟨n-1,by omega⟩
     simp only[Builtin.clear_,hts,zw6,zvt,zu5,run_underlying ht,zuT,yU hi hu,hzc,hst,zvg];rfl
    ·cases he
   ·cases he
  ·cases he
 ·cases he
theorem zgy(hF:FrR ρ h.length N fr a):∀{l:List Operand} {ys:List OD} {vs:List SV},yz l=some ys→zcq fr ys=some vs→l.map a.eval=vs.map (c0 ρ)
 |[],ys,vs,hc,he=>by
  simp only[yz,zuE] at hc;subst hc;simp only[zcq,zuE] at he;subst he;rfl
 |x::r,ys,vs,hc,he=>by
  simp only[yz] at hc;split at hc
  ·rename_i y hx;obtain⟨ys',hy,rfl⟩:=zuI.1 hc;simp only[zcq] at he;split at he
   ·rename_i v hv;obtain⟨vs',hvs,rfl⟩:=zuI.1 he;rw[zu2,zu2,(zh hF hx hv).1,zgy hF hy hvs]
   ·cases he
  ·cases hc
theorem zhP:∀(l:List SV) (k:IntKind) (n:Int) (r:SV),zbJ k n l=some r→((l.map (c0 ρ)).foldlM Builtin.min2 (.int k n)).run P w= .ok (c0 ρ r) w∧∃m,r= .int k m
 |[],k,n,r,he=>by
  simp only[zbJ,zuE] at he;subst he;exact⟨rfl,_,rfl⟩
 |v::l,k,n,r,he=>by
  cases v<;>simp only[zbJ] at he<;>first
   |(cases he;done)
   |skip
  have:=zhP l k _ r he;simp only[zu2,List.foldlM_cons,zu5,c0,Builtin.min2,zvg,zuT];exact this
theorem zhL:∀(l:List SV) (k:IntKind) (n:Int) (r:SV),zbH k n l=some r→((l.map (c0 ρ)).foldlM Builtin.max2 (.int k n)).run P w= .ok (c0 ρ r) w∧∃m,r= .int k m
 |[],k,n,r,he=>by
  simp only[zbH,zuE] at he;subst he;exact⟨rfl,_,rfl⟩
 |v::l,k,n,r,he=>by
  cases v<;>simp only[zbH] at he<;>first
   |(cases he;done)
   |skip
  have:=zhL l k _ r he;simp only[zu2,List.foldlM_cons,zu5,c0,Builtin.max2,zvg,zuT];exact this
theorem zcY:∀{l:List SV} {bs:List UInt8},YT l=some bs→∃ns:List Int,l=ns.map (SV.int .u8)∧bs=ns.map (fun n=>UInt8.ofNat n.toNat)
 |[],bs,he=>by
  simp only[YT,zuE] at he;exact⟨[],rfl,he.symm⟩
 |v::l,bs,he=>by
  unfold YT at he;split at he
  ·rename_i h;cases h
  ·rename_i n r hq;obtain⟨rfl,rfl⟩:=List.cons.inj hq;obtain⟨bs',hb,rfl⟩:=zuI.1 he;obtain⟨ns,rfl,rfl⟩:=zcY hb;exact⟨n::ns,rfl,rfl⟩
  ·cases he
theorem zdv:∀(ns:List Int) (s:ByteArray),ns.foldl (fun r n=>r.push (UInt8.ofNat n.toNat)) s=⟨s.data++(ns.map (fun n=>UInt8.ofNat n.toNat)).toArray⟩
 |[],s=>by simp
 |n::ns,s=>by rw[zwv,zdv ns];simp[ByteArray.push]
theorem b2s_ok(R:Rel P w0 ρ h w)(hF:FrR ρ h.length N fr a){src dst e:TypeId}{i:TypeInfo}(ht:P.underlying src=some (.slice e))(hd:P.underlying dst=some .string)(hu8:P.underlying e=some (.int .u8))(hi:P.info? e=some i)(h1:i.size=1)
 {x:Operand} {y:OD} (hx:zi x=some y) {v:FV} {h':LH} (he:opE fr h (.b2s e y)=some (v,h')):
 Res P w0 ρ h w (do pure (Next.value (←convert src dst (a.eval x)))) v h':=by
 simp only[opE] at he;split at he
 ·rename_i u hu;split at he
  ·rename_i l hl;simp only[zuE,zuH] at he;obtain⟨rfl,rfl⟩:=he;obtain⟨e1,e2⟩:=zh hF hx hu;obtain⟨cs,hcs,hb⟩:=zuU.1 hl;obtain⟨ns,rfl,rfl⟩:=zcY hb;refine Res.val R ?_ trivial;rw[e1];have hload:∀(p:Addr) (n:Nat),n=ns.length→(∀k c,((ns.map (SV.int .u8)).map (c0 ρ))[k]? =some c→w.cell? (p.add k)=some c)→(loadCells p n).run P w= .ok (ns.map (Value.int .u8)).toArray w:=by
    intro p n hn hc;have:=run_loadCells_list (P:=P) (w:=w) p (ns.map (Value.int .u8)) (fun j v hj=>hc j v (by rw[zwN];exact hj));rw[zu9] at this;rw[hn];exact this
   have fin:∀(p:Addr) (n cap:Nat),c0 ρ u= .slice (some p) n cap→n=ns.length→(∀k c,((ns.map (SV.int .u8)).map (c0 ρ))[k]? =some c→w.cell? (p.add k)=some c)→
    (convert src dst (c0 ρ u)).run P w= .ok (.string ⟨(ns.map (fun n=>UInt8.ofNat n.toNat)).toArray⟩) w:=by
    intro p n cap hc hn hk;rw[hc];simp only[convert,zu5,run_underlying ht,run_underlying hd,run_underlying hu8,zuT];rw[run_bytesToString w p n cap ns (hload p n hn hk),zdv];simp
   cases u<;>simp only[j6,zuE] at hcs<;>first
    |(cases hcs;done)
    |skip
   case nils=>
    have:ns=[]:=by simpa using hcs.symm
    subst this;simp[convert,run_underlying ht,run_underlying hd,run_underlying hu8,c0,Conv.bytesToString,cv,ByteArray.empty,ByteArray.emptyWithCapacity];rfl
   case sl0 j p o=>
    have:ns=[]:=by simpa using hcs.symm
    subst this;exact fin _ 0 0 rfl rfl (by simp)
   case sl j p o n=>
    by_cases h0:n=0
    ·subst h0;simp only[j6,zuE] at hcs;have:ns=[]:=by simpa using hcs.symm
     subst this;exact fin _ 0 _ rfl rfl (by simp)
    ·obtain⟨n',rfl⟩:∃n',n=n'+1:=⟨n-1,by omega⟩
     simp only[j6] at hcs;split at hcs
     ·rename_i t' vs hc;split at hcs
      ·rename_i htt;split at hcs
       ·rename_i hle;have hq:=zuG hcs;subst htt;obtain⟨q1,q2,q3,q4⟩:=R.cells hc;rw[yr hi,h1] at q2;simp only[wf] at e2;refine fin _ (n'+1) _ rfl ?_ ?_
        ·have:=congrArg List.length hq;rw[zu9,zu0,zvQ] at this;rw[zvv] at hle;omega
        ·intro k c hk;rw[qA (by omega),Addr.add_mid,q2];rw[←hq,←J6] at hk;exact qM q1 (o*1) _ k c hk
       ·cases hcs
      ·cases hcs
     ·cases hcs
  ·cases he
 ·cases he
theorem zsC(R:Rel P w0 ρ h w)(hF:FrR ρ h.length N fr a){t tx ty e:TypeId}{i:TypeInfo}{z:Value}{ts:Array TypeId}(hsz:ts= #[t,tx])(ht:P.underlying t=some (.slice e))(hk:P.underlying tx=some (.slice e))(hi:P.info? e=some i)(hz:i.zero=some z)(hzs:z.cells.size=i.size)(h0:0<i.size)(hy:0<i.bytes)
 {x x':Operand} {y y':OD} (hx:zi x=some y) (hx':zi x'=some y') {v:FV} {h':LH} (he:opE fr h (.app e i.size i.bytes y y')=some (v,h')):
 Res P w0 ρ h w (do pure (Next.value (←Builtin.append_ ts ty #[a.eval x,a.eval x']))) v h':=by
 simp only[opE] at he;split at he
 ·rename_i u u' hu hu';obtain⟨e1,e2⟩:=zh hF hx hu;obtain⟨e3,e4⟩:=zh hF hx' hu';split at he
  ·rename_i n new hn hnew;subst hsz;obtain⟨hs,hwn,hln⟩:=zeN (tx:=tx) R hi hk e4 hn hnew;obtain⟨ρ',w',q1,q2,q3,q4,q5⟩:=zkb (ty:=ty) R ht hi hz hzs h0 hy e2 hs hwn hln he;rw[e1,e3];exact⟨_,ρ',w',qT q1,.inl rfl,q2,q3,q4,q5⟩
  ·cases he
 ·cases he
theorem zp1(R:Rel P w0 ρ h w)(hF:FrR ρ h.length N fr a){t tx ty e:TypeId}{i:TypeInfo}{z:Value}{ts:Array TypeId}(hsz:ts= #[t,tx])(ht:P.underlying t=some (.slice e))(hk:P.underlying tx=some .string)(hi:P.info? e=some i)(hz:i.zero=some z)(hzs:z.cells.size=i.size)(h1:i.size=1)(hy:0<i.bytes)
 {x x':Operand} {y y':OD} (hx:zi x=some y) (hx':zi x'=some y') {v:FV} {h':LH} (he:opE fr h (.apps e i.bytes y y')=some (v,h')):
 Res P w0 ρ h w (do pure (Next.value (←Builtin.append_ ts ty #[a.eval x,a.eval x']))) v h':=by
 simp only[opE] at he;split at he
 ·rename_i u s hu hu';obtain⟨e1,e2⟩:=zh hF hx hu;obtain⟨e3,e4⟩:=zh hF hx' hu';subst hsz;obtain⟨hs,hwn,hln⟩:=zro (P:=P) (w:=w) (ρ:=ρ) hk s h.length;rw[←h1] at hs hln he;obtain⟨ρ',w',q1,q2,q3,q4,q5⟩:=zkb (ty:=ty) R ht hi hz hzs (by omega) hy e2 hs hwn hln he;rw[e1,e3];exact⟨_,ρ',w',qT q1,.inl rfl,q2,q3,q4,q5⟩
 ·cases he
theorem zka{α:Type}{o:Option α}{p:α→Bool}(h:o.any p=true):∃x,o=some x∧p x=true:=by
 cases o with
 |none=>cases h
 |some x=>exact⟨x,rfl,h⟩
theorem ziS(R:Rel P w0 ρ h w)(hF:FrR ρ h.length N fr a){b:Builtin}{ts:Array TypeId}{ty:TypeId}{cs:Array Bool}{args:Array Operand}{ys:List OD}{e:EO}(hx:yz args.toList=some ys)(hc:JS P b ts ys=some e){v:FV}{h':LH}(he:opE fr h e=some (v,h')):
 Res P w0 ρ h w (builtin b ts ty cs (args.map a.eval)) v h':=by
 unfold JS at hc;split at hc
 ·--len
  rename_i y;obtain⟨x,rfl,hxy⟩:=one hx;rw[show(#[x]:Array Operand).map a.eval= #[a.eval x] by simp];split at hc
  ·rename_i hu;obtain rfl:=zuG hc;obtain⟨t,ht,hu⟩:=zuU.1 hu;exact zrj R hF ht hu hxy he
  ·rename_i e' hu;obtain rfl:=zuG hc;obtain⟨t,ht,hu⟩:=zuU.1 hu;exact ztq R hF ht hu hxy he
  ·rename_i k' e' hu;obtain rfl:=zuG hc;obtain⟨t,ht,hu⟩:=zuU.1 hu;exact zqS R hF ht hu hxy he
  ·cases hc
 ·--append
  rename_i y y';obtain⟨x,x',rfl,hxy,hxy'⟩:=two hx;rw[show(#[x,x']:Array Operand).map a.eval= #[a.eval x,a.eval x'] by simp];split at hc
  ·rename_i e1 e2 h1 h2;obtain⟨t,ht,hu⟩:=zuU.1 h1;obtain⟨t',ht',hu'⟩:=zuU.1 h2;split at hc
   ·rename_i heq;subst heq;obtain⟨i,hi,hc⟩:=zuU.1 hc;split at hc
    ·rename_i hh;obtain rfl:=zuG hc;obtain⟨z,hz,hzs⟩:=zka hh.2.2.1;exact zsC R hF (sizeTwo hh.2.2.2 ht ht') (jd hu) hu' hi hz (by simpa using hzs) hh.1 hh.2.1 hxy hxy' he
    ·cases hc
   ·cases hc
  ·rename_i e1 h1 h2;obtain⟨t,ht,hu⟩:=zuU.1 h1;obtain⟨t',ht',hu'⟩:=zuU.1 h2;obtain⟨i,hi,hc⟩:=zuU.1 hc;split at hc
   ·rename_i hh;obtain rfl:=zuG hc;obtain⟨z,hz,hzs⟩:=zka hh.2.2.1;exact zp1 R hF (sizeTwo hh.2.2.2 ht ht') (jd hu) hu' hi hz (by simpa using hzs) hh.1 hh.2.1 hxy hxy' he
   ·cases hc
  ·cases hc
 ·--copy
  rename_i y y';obtain⟨x,x',rfl,hxy,hxy'⟩:=two hx;rw[show(#[x,x']:Array Operand).map a.eval= #[a.eval x,a.eval x'] by simp];split at hc
  ·rename_i e1 e2 h1 h2;obtain⟨t,ht,hu⟩:=zuU.1 h1;obtain⟨t',ht',hu'⟩:=zuU.1 h2;split at hc
   ·obtain⟨i,hi,hc⟩:=zuU.1 hc;split at hc
    ·obtain rfl:=zuG hc;exact zqc R hF ht ht' (jd hu) hu' hi hxy hxy' he
    ·cases hc
   ·cases hc
  ·cases hc
 ·--clear
  rename_i y;obtain⟨x,rfl,hxy⟩:=one hx;rw[show(#[x]:Array Operand).map a.eval= #[a.eval x] by simp];split at hc
  ·rename_i e1 h1;obtain⟨t,ht,hu⟩:=zuU.1 h1;obtain⟨i,hi,hc⟩:=zuU.1 hc;obtain⟨z,hz,hc⟩:=zuU.1 hc;split at hc
   ·rename_i h0;split at hc
    ·rename_i hzl;obtain rfl:=zuG hc;exact zsQ R hF ht (jd hu) hi hz h0 hzl hxy he
    ·cases hc
   ·cases hc
  ·cases hc
 ·--min
  rename_i y r;obtain⟨x,l,hl,hxy,hr⟩:=more hx;obtain rfl:=zuG hc;simp only[opE] at he;split at he
  ·rename_i k n vs hv hvs;obtain⟨u,hu,hq⟩:=zuI.1 he;obtain⟨rfl,rfl⟩:=zuZ hq;obtain⟨q1,m,rfl⟩:=zhP (P:=P) (w:=w) (ρ:=ρ) vs k n u hu;refine Res.val R ?_ trivial;simp only[Builtin.min_,zxT,hl,zu2,(zh hF hxy hv).1,zgy hF hr hvs];exact q1
  ·cases he
 ·--max
  rename_i y r;obtain⟨x,l,hl,hxy,hr⟩:=more hx;obtain rfl:=zuG hc;simp only[opE] at he;split at he
  ·rename_i k n vs hv hvs;obtain⟨u,hu,hq⟩:=zuI.1 he;obtain⟨rfl,rfl⟩:=zuZ hq;obtain⟨q1,m,rfl⟩:=zhL (P:=P) (w:=w) (ρ:=ρ) vs k n u hu;refine Res.val R ?_ trivial;simp only[Builtin.max_,zxT,hl,zu2,(zh hF hxy hv).1,zgy hF hr hvs];exact q1
  ·cases he
 ·--real
  rename_i y;obtain⟨x,rfl,hxy⟩:=one hx;rw[show(#[x]:Array Operand).map a.eval= #[a.eval x] by simp];obtain rfl:=zuG hc;simp only[opE] at he;split at he
  ·rename_i k m n hv;simp only[zuE,zuH] at he;obtain⟨rfl,rfl⟩:=he;refine Res.val R ?_ trivial;rw[(zh hF hxy hv).1];rfl
  ·cases he
 ·--imag
  rename_i y;obtain⟨x,rfl,hxy⟩:=one hx;rw[show(#[x]:Array Operand).map a.eval= #[a.eval x] by simp];obtain rfl:=zuG hc;simp only[opE] at he;split at he
  ·rename_i k m n hv;simp only[zuE,zuH] at he;obtain⟨rfl,rfl⟩:=he;refine Res.val R ?_ trivial;rw[(zh hF hxy hv).1];rfl
  ·cases he
 ·--complex
  rename_i y y';obtain⟨x,x',rfl,hxy,hxy'⟩:=two hx;rw[show(#[x,x']:Array Operand).map a.eval= #[a.eval x,a.eval x'] by simp];obtain rfl:=zuG hc;simp only[opE] at he;split at he
  ·rename_i m n hv hv';simp only[zuE,zuH] at he;obtain⟨rfl,rfl⟩:=he;refine Res.val R ?_ trivial;rw[(zh hF hxy hv).1,(zh hF hxy' hv').1];rfl
  ·cases he
 ·cases hc
where
 more:∀{args:Array Operand} {y:OD} {r:List OD},yz args.toList=some (y::r)→∃x l,args.toList=x::l∧zi x=some y∧yz l=some r:=by
  intro args y r h;cases hq:args.toList with
  |nil=>rw[hq] at h;simp[yz] at h
  |cons x l=>
   rw[hq] at h;simp only[yz] at h;split at h
   ·rename_i y' hy;obtain⟨ys,h1,h2⟩:=zuI.1 h;obtain⟨rfl,rfl⟩:=List.cons.inj h2;exact⟨x,l,rfl,hy,h1⟩
   ·cases h
 one:∀{args:Array Operand} {y:OD},yz args.toList=some [y]→∃x,args= #[x]∧zi x=some y:=by
  intro args y h;obtain⟨x,l,hl,h1,h2⟩:=more h;cases l with
  |nil=>exact⟨x,zxl (by simpa using hl),h1⟩
  |cons q r=>
   simp only[yz] at h2;split at h2
   ·obtain⟨_,_,h3⟩:=zuI.1 h2;cases h3
   ·cases h2
 two:∀{args:Array Operand} {y y':OD},yz args.toList=some [y,y']→∃x x',args= #[x,x']∧zi x=some y∧zi x'=some y':=by
  intro args y y' h;obtain⟨x,l,hl,h1,h2⟩:=more h;obtain⟨x',rfl,h3⟩:=one (args:=l.toArray) (by simpa using h2)|>fun⟨x',h4,h5⟩=>(⟨x',by simpa using congrArg Array.toList h4,h5⟩:∃x',l=[x']∧zi x'=some y')
  exact⟨x,x',zxl (by simpa using hl),h1,h3⟩
 sizeTwo:∀{ts:Array TypeId} {t t':TypeId},ts.size=2→ts[0]? =some t→ts[1]? =some t'→ts= #[t,t']:=by
  intro ts t t' h h0 h1;apply Array.ext
  ·simp[h]
  ·intro i hi _;have:i=0∨i=1:=by omega
   rcases this with rfl|rfl
   ·rw[zvy hi] at h0;simpa using h0
   ·rw[zvy hi] at h1;simpa using h1
end
end
section
variable {P:Program} {w0:Base}
section
variable {ρ:Nat→Ph} {h:LH} {w:World} {N:Nat} {fr:Fr} {a:Act}
theorem ztQ(R:Rel P w0 ρ h w)(hF:FrR ρ h.length N fr a){o:Oper}{e:EO}(hc:zad P o.type o.op=some e){v:FV}{h':LH}(he:opE fr h e=some (v,h')):Res P w0 ρ h w (execOp a.eval o) v h':=by
 unfold execOp;cases hop:o.op<;>rw[hop] at hc<;>simp only[zad] at hc<;>try (cases hc;done)
 case panic x=>
  obtain rfl:=zuG hc;simp[opE,odS,odE] at he
 case move x=>
  obtain⟨y,hy,rfl⟩:=zuI.1 hc;simp only[opE] at he;obtain⟨u,hu,hq⟩:=zuI.1 he;obtain⟨rfl,rfl⟩:=zuZ hq;obtain⟨e1,e2⟩:=ja hF hy hu;exact Res.same R (by simp only;rw[e1];rfl) e2
 case assign x=>
  obtain⟨y,hy,rfl⟩:=zuI.1 hc;simp only[opE] at he;obtain⟨u,hu,hq⟩:=zuI.1 he;obtain⟨rfl,rfl⟩:=zuZ hq;obtain⟨e1,e2⟩:=ja hF hy hu;exact Res.same R (by simp only;rw[e1];rfl) e2
 case pick c x y=>
  split at hc
  ·rename_i c' x' y' h1 h2 h3;obtain rfl:=zuG hc;simp only[opE] at he;split at he
   ·rename_i t p q g1 g2 g3;simp only[zuE,zuH] at he;obtain⟨rfl,rfl⟩:=he;obtain⟨e1,_⟩:=zh hF h1 g1;obtain⟨e2,w2⟩:=ja hF h2 g2;obtain⟨e3,w3⟩:=ja hF h3 g3;refine Res.same R ?_ ?_
    ·simp only[e1,e2,e3,c0,asBool,zu5,zvg,zuT];cases t<;>rfl
    ·cases t
     ·exact w3
     ·exact w2
   ·cases he
  ·cases hc
 case alloc t=>
  split at hc
  ·rename_i n z ht hz;split at hc
   ·rename_i h0;obtain rfl:=zuG hc;simp only[opE,odE,zwr,jI] at he;split at he
    ·rename_i hn;simp only[zuE,zuH] at he;obtain⟨rfl,rfl⟩:=he;obtain⟨i,u,hi,hu,hcell,hwf⟩:=ZD hz ρ;refine zjy R ht (fv:= .agg z) (hwf _) rfl hn ?_;have hcc:(cv ρ (.agg z)).cells=(z.map (c0 ρ)).toArray:=rfl;simp[Instr.alloc,yU hi hu,newVar,hcell,hcc]
    ·cases he
   ·cases hc
  ·rename_i u1 ht hz;obtain rfl:=zuG hc;simp only[opE,odE,zwr,jI] at he;split at he
   ·rename_i hn;simp only[zuE,zuH] at he;obtain⟨rfl,rfl⟩:=he;obtain⟨i,u,hi,hu,hcell,hwf⟩:=ZD hz ρ;have hw1:wfV ρ h.length (.s u1):=hwf _ u1 zvT;refine zjy R ht (fv:= .s u1) hw1 rfl hn ?_;have hcc:=zaA (ρ:=ρ) (v:= .s u1) (l:=[u1]) rfl hw1;simp[Instr.alloc,yU hi hu,newVar,hcell,hcc]
   ·cases he
  ·cases hc
 case box t x=>
  split at hc
  ·rename_i g n y ht hy;split at hc
   ·obtain rfl:=zuG hc;simp only[opE] at he;split at he
    ·rename_i l hl;split at he
     ·rename_i hn;simp only[zuE,zuH] at he;obtain⟨rfl,rfl⟩:=he;obtain⟨u,hu,hfc⟩:=zuU.1 hl;obtain⟨e1,e2⟩:=ja hF hy hu;exact zjy R ht e2 hfc hn (by rw[e1];simp[Instr.box])
     ·cases he
    ·cases he
   ·cases hc
  ·cases hc
 case build t parts=>
  split at hc
  ·rename_i z pl hz hp;obtain⟨ps,hps,rfl⟩:=zuI.1 hc;exact zm7 R hF hz hp hps he
  ·cases hc
 case buildSlice t n parts=>
  split at hc
  ·rename_i e' ht;split at hc
   ·rename_i i z hi hz;split at hc
    ·rename_i hle;split at hc
     ·rename_i h0;split at hc
      ·rename_i hzl;obtain⟨ps,hps,rfl⟩:=zuI.1 hc;exact zsK R hF (jd ht) hi hz hle h0 hzl hps he
      ·cases hc
     ·cases hc
    ·cases hc
   ·cases hc
  ·cases hc
 case load t x=>
  split at hc
  ·rename_i g n y ht hy;obtain rfl:=zuG hc;exact zqI R hF ht hy he
  ·cases hc
 case store t x z=>
  split at hc
  ·rename_i g n y y' ht hy hy';obtain rfl:=zuG hc;exact zoP R hF ht hy hy' he
  ·cases hc
 case nilCheck x=>
  split at hc
  ·obtain⟨y,hy,rfl⟩:=zuI.1 hc;simp only[opE] at he;split at he
   ·rename_i i hs;obtain⟨e1,e2⟩:=zh hF hy hs;split at he
    ·rename_i f fs cs hob;simp only[zuE,zuH] at he;obtain⟨rfl,rfl⟩:=he;obtain⟨q1,q2,q3⟩:=R.obj i _ hob;refine Res.same R ?_ e2;have hv:a.eval x= .func (.func f) (fs.map (c1 ρ)).toArray (cs.map (c1 ρ)).toArray:=by rw[e1];exact q1
     have hw':cv ρ (.s (.cl i))= .func (.func f) (fs.map (c1 ρ)).toArray (cs.map (c1 ρ)).toArray:=q1;simp only[hv,hw',zvg]
    ·cases he
   ·rename_i f hs;simp only[zuE,zuH] at he;obtain⟨rfl,rfl⟩:=he;obtain⟨e1,e2⟩:=zh hF hy hs;refine Res.same R ?_ e2;simp only[e1,c0,zvg,cv]
   ·cases he
  ·obtain⟨y,hy,rfl⟩:=zuI.1 hc;simp only[opE] at he;split at he
   ·rename_i i p hs;simp only[zuE,zuH] at he;obtain⟨rfl,rfl⟩:=he;obtain⟨e1,e2⟩:=zh hF hy hs;refine Res.same R ?_ e2;simp only[e1,c0,zvg,cv]
   ·cases he
 case binOp op t x y q=>
  split at hc
  ·rename_i x' y' hx hy;have bin:e= .bin op x' y'→Res P w0 ρ h w (do pure (Next.value (←(do eqGuard op t x y (a.eval x) (a.eval y);binOp op t (a.eval x) (a.eval y):Sem Value)))) v h':=by
    rintro rfl;simp only[opE] at he;split at he
    ·rename_i p r hp hr;obtain⟨u,hu,hq⟩:=zuI.1 he;obtain⟨rfl,rfl⟩:=zuZ hq;refine Res.val R ?_ (zp4 hu _);rw[(zh hF hx hp).1,(zh hF hy hr).1];exact zoC hu t x y
    ·cases he
   have eqs:(op= .eql∨op= .neq)→zkn P op t x' y'=some e→Res P w0 ρ h w (do pure (Next.value (←(do eqGuard op t x y (a.eval x) (a.eval y);binOp op t (a.eval x) (a.eval y):Sem Value)))) v h':=by
    intro hop hcb
    have hcb':(match P.underlying t with
     |some .bool=>some (EO.eqb (decide (op= .neq)) x' y')
     |some (.pointer _)=>some (.eqp (decide (op= .neq)) x' y')
     |some (.slice _)=>some (.eqn (decide (op= .neq)) x' y')
     |some (.struct fs)=>
      if P.eqGuardType P.depth t then none
      else if P.stoodInHeld t then none
      else(qf P fs.toList).map fun l=> .eqs (decide (op= .neq)) l x' y'
     |some (.int _)|some .string|some (.float _)|some (.complex _)=>some (.bin op x' y')
     |_=>none)=some e:=by
     rcases hop with rfl|rfl<;>exact hcb
    split at hcb'
    ·rename_i hu;obtain rfl:=zuG hcb';simp only[opE] at he;split at he
     ·rename_i p r hp hr;simp only[zuE,zuH] at he;obtain⟨rfl,rfl⟩:=he;refine Res.val R ?_ (by simp[Y9,wfV,wf]);rw[(zh hF hx hp).1,(zh hF hy hr).1];exact zre hu p r hop x y
     ·cases he
    ·rename_i hu;obtain rfl:=zuG hcb';simp only[opE] at he;split at he
     ·rename_i p r hp hr;obtain⟨u,hu',hq⟩:=zuI.1 he;obtain⟨rfl,rfl⟩:=zuZ hq;refine Res.val R ?_ (by simp[Y9,wfV,wf]);rw[(zh hF hx hp).1,(zh hF hy hr).1];exact zoE hu hu' hop x y
     ·cases he
    ·rename_i hu;obtain rfl:=zuG hcb';simp only[opE] at he;split at he
     ·rename_i p r hp hr;obtain⟨u,hu',hq⟩:=zuI.1 he;obtain⟨rfl,rfl⟩:=zuZ hq;refine Res.val R ?_ (by simp[Y9,wfV,wf]);rw[(zh hF hx hp).1,(zh hF hy hr).1];exact zoD hu hu' hop x y
     ·cases he
    ·rename_i fs hu;split at hcb'
     ·cases hcb'
     ·rename_i hg;split at hcb'
      ·cases hcb'
      ·rename_i hst;obtain⟨l,hl,rfl⟩:=zuI.1 hcb';simp only[opE] at he;split at he
       ·rename_i p r hp hr;obtain⟨u,hu',hq⟩:=zuI.1 he;obtain⟨rfl,rfl⟩:=zuZ hq;refine Res.val R ?_ (by simp[Y9,wfV,wf]);rw[(ja hF hx hp).1,(ja hF hy hr).1];exact zrf hu (by simpa using hg) (by simpa using hst) hl hu' hop x y
       ·cases he
    all_goals first
     |exact bin (zuG hcb').symm
     |cases hcb'
   cases op<;>first
    |exact eqs (.inl rfl) hc
    |exact eqs (.inr rfl) hc
    |exact bin (zuG hc).symm
  ·cases hc
 case unOp op t x=>
  obtain⟨y,hy,rfl⟩:=zuI.1 hc;simp only[opE] at he;split at he
  ·rename_i u hu;obtain⟨r,hr,hq⟩:=zuI.1 he;obtain⟨rfl,rfl⟩:=zuZ hq;obtain⟨q1,q2⟩:=zug (P:=P) (w:=w) (ρ:=ρ) hr;refine Res.val R ?_ (q2 _);rw[(zh hF hy hu).1];exact q1
  ·cases he
 case convert src dst x=>
  split at hc
  ·rename_i y hy;split at hc
   ·rename_i k1 k hs hd;obtain rfl:=zuG hc;simp only[opE] at he;split at he
    ·rename_i k2 n hn;simp only[zuE,zuH] at he;obtain⟨rfl,rfl⟩:=he;refine Res.val R ?_ trivial;rw[(zh hF hy hn).1];simp only[convert,zu5,run_underlying hs,run_underlying hd,zuT,c0,Conv.intToInt,zvg,cv]
    ·cases he
   ·rename_i k1 k hs hd;obtain rfl:=zuG hc;simp only[opE] at he;split at he
    ·rename_i k2 n hn;simp only[zuE,zuH] at he;obtain⟨rfl,rfl⟩:=he;refine Res.val R ?_ trivial;rw[(zh hF hy hn).1];simp only[convert,zu5,run_underlying hs,run_underlying hd,zuT,c0,Conv.intToFloat,zvg,cv]
    ·cases he
   ·rename_i k1 k hs hd;obtain rfl:=zuG hc;simp only[opE] at he;split at he
    ·rename_i k2 n hn;split at he
     ·rename_i m hm;split at he
      ·rename_i hle;simp only[zuE,zuH] at he;obtain⟨rfl,rfl⟩:=he;refine Res.val R ?_ trivial;rw[(zh hF hy hn).1];simp only[convert,zu5,run_underlying hs,run_underlying hd,zuT,c0,Conv.floatToInt,hm,hle,and_self,if_true,zvg,cv]
      ·cases he
     ·cases he
    ·cases he
   ·rename_i e' hs hd;split at hc
    ·rename_i hu8;obtain⟨i,hi,hc⟩:=zuU.1 hc;split at hc
     ·rename_i h1;obtain rfl:=zuG hc;refine b2s_ok R hF hs hd ?_ hi h1 hy he;simpa using hu8
     ·cases hc
    ·cases hc
   ·rename_i e' hs hd;split at hc
    ·rename_i hu8;obtain⟨i,hi,hc⟩:=zuU.1 hc;split at hc
     ·rename_i h1;obtain rfl:=zuG hc;refine s2b_ok R hF hs hd ?_ hi h1 hy he;simpa using hu8
     ·cases hc
    ·cases hc
   ·cases hc
  ·cases hc
 case range t x=>
  split at hc
  ·rename_i ht;obtain⟨y,hy,rfl⟩:=zuI.1 hc;exact ztZ R hF (zdC ht) hy he
  ·cases hc
 case next x s=>
  split at hc
  ·rename_i hs;subst hs;obtain⟨y,hy,rfl⟩:=zuI.1 hc;exact ztO R hF hy he
  ·cases hc
 case makeMap t r=>
  split at hc
  ·rename_i hr;obtain rfl:=zuG hc;rw[zxh] at hr;subst hr;exact ztD R he
  ·cases hc
 case insert t m k x=>
  split at hc
  ·rename_i q e' m' k' x' ht hm hk hx;obtain rfl:=zuG hc;exact zkE R hF ht hm hk hx he
  ·cases hc
 case mapUpdate t m k x=>
  split at hc
  ·rename_i q e' m' k' x' ht hm hk hx;obtain rfl:=zuG hc;exact zkE R hF ht hm hk hx he
  ·cases hc
 case lookup t m k ok=>
  split at hc
  ·rename_i q e' m' k' ht hm hk;split at hc
   ·rename_i z hz;split at hc
    ·rename_i hn;obtain rfl:=zuG hc;exact zqN R hF ht hz hn hm hk he
    ·cases hc
   ·cases hc
  ·cases hc
 case makeInterface t x=>
  split at hc
  ·cases hc
  ·rename_i d y hni hu hy;obtain rfl:=zuG hc;exact ztC R hF hu (fun ms hd=>by subst hd;exact hni _ rfl) hy he
  ·cases hc
 case makeFunc fn first caps=>
  cases fn<;>simp only at hc<;>try (cases hc;done)
  split at hc
  ·split at hc
   ·rename_i x y hx hy;obtain rfl:=zuG hc;exact ztB R hF hx hy he
   ·cases hc
  ·cases hc
 case makeSlice t l c=>
  split at hc
  ·rename_i e' y ht hy;split at hc
   ·rename_i i z hi hz;split at hc
    ·rename_i hs;split at hc
     ·rename_i h0;split at hc
      ·rename_i hzl;obtain rfl:=zuG hc;exact ztE R hF (jd ht) hi hz hs h0.1 h0.2 hzl hy he
      ·cases hc
     ·cases hc
    ·cases hc
   ·cases hc
  ·cases hc
 case slice t x lo hi mx=>
  cases mx with
  |some m=>
   simp only at hc;split at hc
   ·rename_i e' y u ht hy;split at hc
    ·rename_i hn;obtain rfl:=zuG hc;rw[zuP,zuP] at hn;obtain⟨i,hi'⟩:=zv3.1 hn.2;exact zrk R hF (jd ht) hi' hy hn.1.1 hn.1.2 he
    ·split at hc
     ·rename_i hs;obtain⟨i,hi',hc⟩:=zuU.1 hc;obtain⟨k,hk,hc⟩:=zuU.1 hc;split at hc
      ·obtain rfl:=zuG hc;exact zsY R hF (jd ht) hi' hy hk hs he
      ·cases hc
     ·cases hc
   ·cases hc
  |none=>
   simp only at hc;split at hc
   ·rename_i y l u hy hl hu;split at hc
    ·rename_i hstr;obtain rfl:=zuG hc;exact zrp R hF hy hl hu (zdC hstr) he
    ·split at hc
     ·rename_i e' ht;obtain⟨i,hi',hc⟩:=zuU.1 hc;split at hc
      ·obtain rfl:=zuG hc;exact zt7 R hF hy hl hu (jd ht) hi' rfl he
      ·cases hc
     ·cases hc
   ·cases hc
 case fieldAddr s x f=>
  split at hc
  ·rename_i g y hg hy;obtain⟨i,hi,hc⟩:=zuU.1 hc;split at hc
   ·rename_i h0;obtain rfl:=zuG hc;exact zs8 R hF hg hi h0 hy he
   ·cases hc
  ·cases hc
 case field s x f=>
  split at hc
  ·rename_i g y hg hy;obtain⟨⟨q,n⟩,ht,rfl⟩:=zuI.1 hc;exact zta R hF hg ht hy he
  ·cases hc
 case indexAddr t x i=>
  split at hc
  ·rename_i e' y j ht hy hj;obtain⟨i',hi,hc⟩:=zuU.1 hc;split at hc
   ·obtain rfl:=zuG hc;exact ztg R hF (jd ht) hi hy hj he
   ·cases hc
  ·rename_i y j ht hy hj;split at hc
   ·rename_i n e' ht';obtain⟨i',hi,hc⟩:=zuU.1 hc;split at hc
    ·rename_i hn;obtain rfl:=zuG hc;exact ztf R hF ht' hn hi hy hj he
    ·cases hc
   ·cases hc
  ·cases hc
 case index t x i=>
  split at hc
  ·rename_i y j ht hy hj;obtain rfl:=zuG hc;exact zth R hF (zdC ht) hy hj he
  ·cases hc
 case extract x i=>
  obtain⟨y,hy,rfl⟩:=zuI.1 hc;exact zs7 R hF hy he
 case call c=>
  unfold zc7 at hc;split at hc
  ·rename_i b hb;obtain⟨ys,hys,hc⟩:=zuU.1 hc;simp only[resolve,hb,pure_bind,invoke];exact ziS R hF hys hc he
  ·split at hc
   ·obtain⟨ys,hys,rfl⟩:=zuI.1 hc;cases he
   ·cases hc
  ·obtain⟨ys,hys,rfl⟩:=zuI.1 hc;cases he
  ·cases hc
end
end
end Go.Proofs.YtdmcfjkgopmlgaaGreatDoor.Ev

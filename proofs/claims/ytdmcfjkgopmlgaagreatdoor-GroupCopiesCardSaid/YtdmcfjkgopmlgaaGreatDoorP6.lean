import Derived.Test.YtdmcfjkgopmlgaaGreatDoorP5
set_option maxHeartbeats 2000000
set_option maxRecDepth 8000
set_option linter.unusedVariables false
set_option linter.unusedSimpArgs false
set_option linter.unusedSectionVars false
namespace Go.Proofs.YtdmcfjkgopmlgaaGreatDoor.Ev.CA
open Go
def za(n:Int):Bool:=decide (-100000000000≤n∧n≤100000000000)
def zn(n:Int):Bool:=decide (0≤n∧n≤1000000)
def zl(n:Int):Bool:=decide (0≤n∧n≤399)
def yF(n:Int):Bool:=decide (0≤n∧n≤99)
def zl1(n:Int):Prop:= -9223372036854775808≤n∧n<9223372036854775808
theorem zgT{n:Int}(hn:zl1 n)(d:Int)(hd:1<d):IntKind.i64.wrap (n.tdiv d)=n.tdiv d:=by
 have a1:(n.tdiv d).natAbs≤n.natAbs:=by rw[Int.natAbs_tdiv];exact Nat.div_le_self _ _
 have a2:n.natAbs≤9223372036854775808:=by unfold zl1 at hn;omega
 by_cases e:n= -9223372036854775808
 ·have:(n.tdiv d).natAbs<9223372036854775808:=by
   rw[Int.natAbs_tdiv]
   exact Nat.div_lt_of_lt_mul (by have:n.natAbs=9223372036854775808:=by omega
                                  rw[this];omega)
  exact ze (by omega) (by omega)
 ·have:n.natAbs<9223372036854775808:=by unfold zl1 at hn;omega
  exact ze (by omega) (by omega)
def Yx(n r:Int):Prop:= -400000000000≤n∧n≤400000000000∧0≤r∧r≤10000000
instance (n r:Int):Decidable (Yx n r):=by unfold Yx;infer_instance
def ofF(n r:Int):Int:=if n<0 then(2*n*r-1000000).tdiv 2000000 else(2*n*r+1000000).tdiv 2000000
theorem Jd{n r N R:Int}(hN: -N≤n∧n≤N)(hR:0≤r∧r≤R)(h0:0≤N): -(N*R)≤n*r∧n*r≤N*R:=by have a:n*r≤N*r:=zxD hN.2 hR.1;have b:N*r≤N*R:=zwJ hR.2 h0;have c: -N*r≤n*r:=zxD hN.1 hR.1;rw[Int.neg_mul] at c;omega
theorem zkR{n r:Int}(hn:0≤n)(hr:0≤r):ofF n r=if 1000000≤2*((n*r)%1000000) then n*r/1000000+1 else n*r/1000000:=by unfold ofF;have hx:0≤n*r:=zxC hn hr;have e:2*n*r=2*(n*r):=Int.mul_assoc _ _ _;rw[zuV (by omega),e];generalize n*r=x at hx;rw[zwA (by omega)];split<;>omega
theorem zq6{n r:Int}(hn:n<0):ofF n r= -ofF (-n) r:=by
 unfold ofF;rw[zuT hn,zuV (by omega)];have e:2*n*r-1000000= -(2* -n*r+1000000):=by rw[Int.mul_neg,Int.neg_mul];omega
 rw[e,Int.neg_tdiv]
def zg(n r:Int):Int:=if Yx n r then ofF n r else 0
theorem zF(n r:Int): -4000000000001≤zg n r∧zg n r≤4000000000001:=by
 unfold zg;split
 ·rename_i hk;unfold Yx at hk;have b:=Jd (n:=n) (r:=r) (N:=400000000000) (R:=10000000) (by omega) (by omega) (by omega);have e:2*n*r=2*(n*r):=Int.mul_assoc _ _ _;unfold ofF;rw[e];generalize n*r=x at b;split
  ·have h:=zxE (2*x-1000000) 2000000;have h1:=zxQ (2*x-1000000) (show(0:Int)<2000000 by omega);have h2:=zxO (2*x-1000000) (show(0:Int)<2000000 by omega);generalize(2*x-1000000).tdiv 2000000=q at *;generalize(2*x-1000000).tmod 2000000=m at *;omega
  ·have h:=zxE (2*x+1000000) 2000000;have h1:=zxQ (2*x+1000000) (show(0:Int)<2000000 by omega);have h2:=zxO (2*x+1000000) (show(0:Int)<2000000 by omega);generalize(2*x+1000000).tdiv 2000000=q at *;generalize(2*x+1000000).tmod 2000000=m at *;omega
 ·omega
theorem Qe{n r:Int}(hn: -100000000000≤n∧n≤100000000000)(hr:0≤r∧r≤1000000): -100000000000≤zg n r∧zg n r≤100000000000:=by
 have key:∀n:Int,0≤n→n≤100000000000→0≤ofF n r∧ofF n r≤100000000000:=by intro n h0 h1;rw[zkR h0 hr.1];have b:=Jd (n:=n) (r:=r) (N:=100000000000) (R:=1000000) (by omega) hr (by omega);have b0:0≤n*r:=zxC h0 hr.1;generalize n*r=x at *;split<;>omega
 unfold zg;rw[zuT (by unfold Yx;omega)];by_cases h0:0≤n
 ·have:=key n h0 hn.2;omega
 ·have:=key (-n) (by omega) (by omega);rw[zq6 (by omega)];omega
theorem zoo{n r:Int}(hn:0≤n):0≤zg n r:=by
 unfold zg;split
 ·rename_i hk;unfold Yx at hk;rw[zkR hn (by omega)];have:=zxC hn hk.2.2.1;generalize n*r=x at *;split<;>omega
 ·omega
theorem zj6{n:Int}(h:za n=true):IntKind.i64.wrap n=n:=by simp[za] at h;exact ze (by omega) (by omega)
theorem zbL{α:Type}(f:α→Int)(B:Int)(hB:0≤B):∀(l:List α),(∀a∈l,-B≤f a∧f a≤B)→-(B*l.length)≤(l.map f).sum∧(l.map f).sum≤B*l.length
 |[],_=>by simp
 |a::l,h=>by have ih:=zbL f B hB l fun x hx=>h x (by simp[hx]);have h0:=h a (by simp);simp only[zu7,zwu,zvA,zwx,zw9];omega
theorem QB{α:Type}(f:α→Int)(l:List α)(s:Int):l.foldl (fun s a=>s+f a) s=s+(l.map f).sum:=by
 induction l generalizing s with
 |nil=>simp
 |cons a l ih=>simp[ih];omega
structure Rw where
 j:ByteArray
 y:Int
 r:Int
 p:Int
structure Bu where
 c:Int
 y:Int
 n:Int
structure Vi where
 o:Int
 e:Int
 n:Int
structure Pa where
 s:ByteArray
 b:ByteArray
 n:Int
structure Li where
 a:Int
 n:Int
structure It where
 k:Int
 n:Int
structure Jo where
 seq:Int
 id:ByteArray
 p:Int
 kind:Int
 of:Int
 l:List Li
structure Bal where
 p:Int
 b:List Bu
 r:List Int
 next:Int
 left:Int
 temp:Int
 loss:Int
 allow:Int
structure Inp where
 j:ByteArray
 p:Int
 book:Int
 perm:Int
 judge:Int
 cap:Int
 life:Int
 up:Int
structure Res where
 income:Int
 expired:Int
 used:Int
 new:Int
 taxable:Int
 tax:Int
 vec:List Int
structure Wa where
 c:Int
 y:Int
 o:Int
 m:Int
 z:Int
structure Pro where
 inp:Inp
 rate:Int
 op:Bal
 cl:Bal
 cur:Res
 rows:List Wa
 now:List Int
 tm:Int
 tr:Int
 lm:Int
 lr:Int
 am:Int
 deferred:Int
 total:Int
def zar(b x:Rw):Bool:=decide (x.y >b.y)||(x.y==b.y&&decide (x.p >b.p))
def QW(j:ByteArray)(y at':Int)(b:Option Rw)(x:Rw):Option Rw:=
 if x.j==j&&decide (x.p≤at')&&decide (x.y≤y) then match b with
  |none=>some x
  |some b=>if zar b x then some x else some b
 else b
def jm(t:List Rw)(j:ByteArray)(y at':Int):Option Int:=(t.foldl (QW j y at') none).map (·.r)
def Ji(j:ByteArray)(y p:Int)(x:Rw):Bool:=x.j==j&&(x.y==y&&x.p==p)
def qy(t:List Rw)(j:ByteArray)(y r p:Int):Int×List Rw:=
 if j.size=0∨¬yF y=true∨¬zn r=true∨¬zl p=true then(1,t)
 else if t.any (Ji j y p) then(4,t)
 else if 24≤t.length then(5,t)
 else(0,t++[⟨j,y,r,p⟩])
def yR(t:List Rw)(j:ByteArray)(p:Int):Int×Int:=
 if zl p then match jm t j (min (p.tdiv 4+1) 99) p with
  |some r=>(r,0)
  |none=>(0,7)
 else(0,1)
def zS(t:List Rw)(j:ByteArray)(p:Int):List Int→Option (List Int)
 |[]=>some []
 |y::l=>match jm t j (max y (p.tdiv 4)) p with
  |some r=>(zS t j p l).map (r:: ·)
  |none=>none
def jH(c y:Int)(b:Bu):Bool:=b.c==c&&b.y==y
def getD(l:List Bu)(c y:Int):Int:=match l.find? (jH c y) with
 |some b=>b.n
 |none=>0
def yH(l:List Bu):Int:=(l.map (·.n)).sum
def ltB(a b:Bu):Bool:=decide (a.c<b.c)||(a.c==b.c&&decide (a.y<b.y))
def insB(b:Bu):List Bu→List Bu
 |[]=>[b]
 |x::r=>if ltB b x then b::x::r else x::insB b r
def zim(l:List Bu)(c y n:Int):List Bu:=
 let m:=l.filter fun b=> !jH c y b
 if n=0 then m else insB ⟨c,y,n⟩ m
def yK(c y:Int):Bool:=decide (1≤c∧c≤9)&&yF y
def zkL(l:List Bu)(c y n:Int):Int×List Bu:=
 if¬yK c y=true∨¬za n=true then(1,l)
 else if¬za (getD l c y+n)=true∨¬za (yH l+n)=true then(6,l)
 else let m:=zim l c y (getD l c y+n)
  if 12<m.length then(5,l) else(0,m)
def za0(l:List Bu)(c y c2 y2 n:Int):Int×List Bu:=
 if¬yK c y=true∨¬yK c2 y2=true∨¬za n=true∨(c=c2∧y=y2) then(1,l)
 else if¬za (getD l c y-n)=true∨¬za (getD l c2 y2+n)=true then(6,l)
 else let m:=zim (zim l c y (getD l c y-n)) c2 y2 (getD l c2 y2+n)
  if 12<m.length then(5,l) else(0,m)
def zeU:List (Int×Int):=(List.range 9).flatMap fun(c:Nat)=>(List.range 100).map fun(y:Nat)=>((c:Int)+1,(y:Int))
def zZ(o c:List Bu):List Wa:=(zeU.filter fun k=>getD o k.1 k.2 !=0||getD c k.1 k.2 !=0).map fun k=>⟨k.1,k.2,getD o k.1 k.2,getD c k.1 k.2-getD o k.1 k.2,getD c k.1 k.2⟩
def zA(l:List Vi):Int:=(l.map (·.n)).sum
def ltV(a b:Vi):Bool:=decide (a.e<b.e)||(a.e==b.e&&decide (a.o<b.o))
def insV(b:Vi):List Vi→List Vi
 |[]=>[b]
 |x::r=>if ltV b x then b::x::r else x::insV b r
def Yt(o e:Int)(v:Vi):Bool:=v.o==o&&v.e==e
def zhF(l:List Vi)(o e n:Int):Int×List Vi:=
 if¬yF o=true∨e<o∨198<e∨n<1∨100000000000<n then(1,l)
 else if¬za (zA l+n)=true then(6,l)
 else if l.any (Yt o e) then(0,l.map fun v=>if Yt o e v then{v with n:=v.n+n} else v)
 else if 12≤l.length then(5,l)
 else(0,insV ⟨o,e,n⟩ l)
def zhr(l:List Vi)(y:Int):Int:=zA (l.filter fun v=>decide (v.e<y))
def zb5(l:List Vi)(y:Int):List Vi:=l.filter fun v=> !decide (v.e<y)
def za9:List Vi→Int→Int→List Int
 |[],_,_=>[]
 |v::r,y,room=>let n:=if y≤v.e then min v.n (max room 0) else 0
  n::za9 r y (room-n)
def Q0(l:List Vi)(u:List Int):List Vi:=((l.zip u).map fun x=>{x.1 with n:=x.1.n-x.2}).filter fun v=>v.n !=0
def zjc(n r:Int):Int:=if 0≤n then(n*r).tdiv 1000000 else 0
def zcp(l:List Vi)(book perm moved cap life year r:Int):Int×Res×List Vi:=
 let none:Res:=⟨0,0,0,0,0,0,[]⟩
 if¬zn cap=true∨¬zn r=true∨¬yF life=true∨¬yF year=true then(1,none,l)
 else
  let n:=book+perm-moved
  if¬za book=true∨¬za perm=true∨¬za moved=true∨¬za n=true then(6,none,l)
  else
   let k:=zb5 l year;let gone:=zhr l year
   if 0<n then
    let v:=za9 k year (zjc n cap)
    (0,⟨n,gone,v.sum,0,n-v.sum,zg (n-v.sum) r,v⟩,Q0 k v)
   else if n<0 then
    match zhF k year (year+life) (-n) with
    |(0,k')=>(0,⟨n,gone,0,-n,0,zg 0 r,[]⟩,k')
    |(e,_)=>(e,none,l)
   else(0,⟨n,gone,0,0,0,zg 0 r,[]⟩,k)
def zm(n r:Int):Int×Int:=if 0≤n∧n≤100000000000∧zn r=true then(zg n r,0) else(0,1)
def jw:List Bu→List Int→Int
 |b::l,r::s=>jw l s-zg b.n r
 |_,_=>0
def zlk:Bal:=⟨0,[],[],0,0,0,0,0⟩
def yX:Bal:=⟨-1,[],[],0,0,0,0,0⟩
def zsl:Inp:=⟨⟨#[]⟩,0,0,0,0,0,0,0⟩
def qN:Res:=⟨0,0,0,0,0,0,[]⟩
def zt:Pro:=⟨zsl,0,zlk,zlk,qN,[],[],0,0,0,0,0,0,0⟩
def ZZ:List Bu→List Int→Int→Int→Int→Int
 |b::l,r::s,c,y,now=>if jH c y b then r else ZZ l s c y now
 |_,_,_,_,now=>now
def yC:List Wa→List Int→Int
 |w::l,r::s=>zg w.z r-zg w.o r+yC l s
 |_,_=>0
def yy:List Wa→List Int→List Int→Int
 |w::l,was::s,now::t=>zg w.o now-zg w.o was+yy l s t
 |_,_,_=>0
def yE(op:Bal):List Wa→List Int→List Int
 |w::l,n::s=>ZZ op.b op.r w.c w.y n::yE op l s
 |_,_=>[]
def YM(t:List Rw)(inp:Inp)(op:Bal)(l:List Vi)(reg:List Bu):Int×Pro×List Vi:=
 if¬zl inp.p=true∨¬zn inp.judge=true∨¬za inp.up=true then(1,zt,l)
 else
  let y:=inp.p.tdiv 4
  match jm t inp.j y inp.p with
  |none=>(7,zt,l)
  |some r=>
   match yR t inp.j inp.p with
   |(next,0)=>
    match zS t inp.j inp.p (reg.map (·.y)) with
    |none=>(7,zt,l)
    |some rates=>
     let rows:=zZ op.b reg
     match zcp l inp.book inp.perm ((rows.map (·.m)).sum) inp.cap inp.life y r with
     |(0,cur,left)=>
      let temp:=jw reg rates
      if¬za temp=true then(6,zt,l)
      else
       let lf:=zA left
       match zm lf next with
       |(loss,0)=>
        match zm loss inp.judge with
        |(al,0)=>
         match zS t inp.j inp.p (rows.map (·.y)) with
         |none=>(7,zt,l)
         |some now=>
          let olds:=yE op rows now;let tm:=yC rows now;let tr:=yy rows olds now
          if¬za tm=true∨¬za tr=true then(6,zt,l)
          else
           let lr:=zg op.left op.next-zg op.left next
           let lm:=op.loss-loss-lr;let am:=op.allow- -al;let de:=tm+tr+lm+lr+am;let tot:=cur.tax+de+inp.up;let p:Pro:=⟨inp,r,op,⟨inp.p,reg,rates,next,lf,temp,loss,-al⟩,cur,rows,now,tm,tr,lm,lr,am,de,tot⟩
           if[lm,lr,am,cur.tax+inp.up,temp-op.temp,loss-op.loss,-al-op.allow,de,tot].all za then(0,p,left) else(6,zt,l)
        |(_,e)=>(e,zt,l)
       |(_,e)=>(e,zt,l)
     |(e,_,_)=>(e,zt,l)
   |(_,e)=>(e,zt,l)
def jb(l:List Li)(a:Int):Int:=((l.filter fun x=>x.a==a).map (·.n)).sum
def j7(l:List Li):List Li:=((List.range 7).map fun(k:Nat)=>(⟨(k:Int)+1,jb l ((k:Int)+1)⟩:Li)).filter fun x=>x.n !=0
def yG(p:Pro):List Li:=j7 [⟨1,p.cur.tax⟩,⟨7,p.inp.up⟩,⟨2,-p.cur.tax-p.inp.up⟩,⟨3,p.deferred⟩,⟨4,p.cl.temp-p.op.temp⟩,⟨5,p.cl.loss-p.op.loss⟩,⟨6,p.cl.allow-p.op.allow⟩]
def yI(l:List Li):List Li:=l.map fun x=>⟨x.a,-x.n⟩
def jL(rate:Int):List Wa→List Int→Int
 |w::l,r::s=>zg w.m r-zg w.m rate+jL rate l s
 |_,_=>0
def JZ(p:Pro):List It:=
 let n:=p.cur.used-p.cur.new;let l:List It:=[⟨1,zg p.inp.book p.rate⟩,⟨2,zg p.inp.perm p.rate⟩,⟨3,jL p.rate p.rows p.now+(zg n p.cl.next-zg n p.rate)⟩,⟨4,p.tr+p.lr⟩,⟨5,p.am⟩,⟨6,zg p.cur.expired p.cl.next⟩,⟨7,p.inp.up⟩]
 l++[⟨8,p.total-(l.map (·.n)).sum⟩]
def jA:Int→List Li→Bool
 |_,[]=>true
 |a,x::l=>decide (a<x.a∧x.a≤7)&&(x.n !=0&&za x.n)&&jA x.a l
def yo(l:List Li):Bool:=decide (l.length≤20)&&jA 0 l&&(l.map (·.n)).sum==0
def ofJ(id:ByteArray)(upto:Int)(s:List Jo):List Li:=(s.filter fun j=>j.id==id&&decide (j.p≤upto)).flatMap (·.l)
def zd7(a b:List Li):Bool:=(a.map fun x=>(x.a,x.n))==(b.map fun x=>(x.a,x.n))
def jj(s:List Jo)(id:ByteArray)(p kind of:Int)(l:List Li):Int×Int×List Jo:=
 if id.size=0∨¬zl p=true∨(kind≠1∧kind≠2)∨(kind=1∧of≠0) then(0,1,s)
 else
  let was:=s[(of-1).toNat]?
  let no:Int:=if kind=2 then match was with
   |some j=>if of<1∨¬(j.id==id&&j.p==p&&j.kind==1)=true then 3 else if s.any fun k=>k.of==of then 4 else 0
   |none=>3
   else 0
  if no≠0 then(0,no,s)
  else if¬yo l=true∨(kind=2∧¬zd7 l (yI ((was.map (·.l)).getD []))=true) then(0,2,s)
  else if 200≤s.length then(0,5,s)
  else if¬(j7 (ofJ id 399 s++l)).all (fun x=>za x.n)=true then(0,6,s)
  else((s.length:Int)+1,0,s++[⟨(s.length:Int)+1,id,p,kind,of,l⟩])
structure Sta where
 book:Int
 perm:Int
 judge:Int
 cap:Int
 life:Int
 up:Int
 reg:List Bu
 l:List Vi
 filed:List Int
structure Clo where
 was:Sta
 p:Pro
 seq:Int
structure Ent where
 id:ByteArray
 j:ByteArray
 fx:Int
 first:Int
 touched:List Bool
 s:Sta
 cs:List Clo
def YP(e:Ent):Int:=e.first+(e.touched.length:Int)-1
def YR(e:Ent)(p:Int):Option Pro:=(e.cs.find? fun c=>c.p.inp.p==p).map (·.p)
def QJ(l:List Bool):List Bool:=l.dropLast++[true]
def zfH(s n:Int):Int×Int:=if¬za n=true then(1,s) else if¬za (s+n)=true then(6,s) else(0,s+n)
structure Cmd where
 k:Int
 id:ByteArray
 id2:ByteArray
 j:ByteArray
 c:Int
 d:Int
 y:Int
 z:Int
 p:Int
 n:Int
 r:Int
 x:Int
def zkt(e:Ent)(p n:Int):Int×Sta:=
 match YR e p with
 |none=>(3,e.s)
 |some q=>
  if e.s.filed.contains p then(4,e.s)
  else match zm n q.rate with
  |(v,0)=>
   let w:=v-q.cur.tax
   if¬za w=true∨¬za (e.s.up+w)=true then(6,e.s) else(0,{e.s with up:=e.s.up+w,filed:=e.s.filed++[p]})
  |(_,er)=>(er,e.s)
def zeG(e:Ent)(m:Cmd):Int×Sta:=
 if m.k=3 then let a:=zfH e.s.book m.n;(a.1,{e.s with book:=a.2})
 else if m.k=4 then let a:=zfH e.s.perm m.n;(a.1,{e.s with perm:=a.2})
 else if m.k=5 then let a:=zkL e.s.reg m.c m.y m.n;(a.1,{e.s with reg:=a.2})
 else if m.k=6 then let a:=za0 e.s.reg m.c m.y m.d m.z m.n;(a.1,{e.s with reg:=a.2})
 else if m.k=7 then if zn m.r then(0,{e.s with judge:=m.r}) else(1,e.s)
 else if m.k=8 then if zn m.r&&yF m.y then(0,{e.s with cap:=m.r,life:=m.y}) else(1,e.s)
 else zkt e m.p m.n
def Y5(e:Ent)(m:Cmd):Int×Ent:=
 if¬zl (YP e)=true then(8,e)
 else match zeG e m with
  |(0,s)=>(0,{e with s:=s,touched:=QJ e.touched})
  |(er,_)=>(er,e)
def YQ(e:Ent):Bal:=match e.cs.getLast? with
 |some c=>c.p.cl
 |none=>yX
def qU(t:List Rw)(js:List Jo)(e:Ent):Int×Ent×List Jo:=
 if¬zl (YP e)=true then(8,e,js)
 else
  let s:=e.s
  match YM t ⟨e.j,YP e,s.book,s.perm,s.judge,s.cap,s.life,s.up⟩ (YQ e) s.l s.reg with
  |(0,p,left)=>
   match jj js e.id (YP e) 1 0 (yG p) with
   |(seq,0,js')=>(0,{e with s:={s with book:=0,perm:=0,up:=0,l:=left},cs:=e.cs++[⟨s,p,seq⟩],touched:=e.touched++[false]},js')
   |(_,er,_)=>(er,e,js)
  |(er,_,_)=>(er,e,js)
def za1(js:List Jo)(e:Ent):Int×Ent×List Jo:=
 if e.touched.length≤1 then(3,e,js)
 else if e.touched.getLast? =some true then(8,e,js)
 else match e.cs.getLast? with
  |none=>(3,e,js)
  |some c=>
   match jj js e.id c.p.inp.p 2 c.seq (yI (yG c.p)) with
   |(_,0,js')=>(0,{e with s:=c.was,cs:=e.cs.dropLast,touched:=e.touched.dropLast},js')
   |(_,er,_)=>(er,e,js)
structure Grp where
 t:List Rw
 js:List Jo
 es:List Ent
 c:List Pa
def zjv:Grp:=⟨[],[],[],[]⟩
def Zn(s b:ByteArray)(x:Pa):Bool:=x.s==s&&x.b==b
def Yh(c:List Pa)(s b:ByteArray):Int:=match c.find? (Zn s b) with
 |some x=>x.n
 |none=>0
def ltS(a b:ByteArray):Bool:=Op.bytesLess a.toList b.toList
def ltP(a b:Pa):Bool:=ltS a.s b.s||(a.s==b.s&&ltS a.b b.b)
def znL(b:Pa):List Pa→List Pa
 |[]=>[b]
 |x::r=>if ltP b x then b::x::r else x::znL b r
def ziW(c:List Pa)(s b:ByteArray)(n:Int):Int×List Pa:=
 if s.size=0∨b.size=0∨s=b∨¬za n=true then(1,c)
 else
  let v:=Yh c s b+n
  if v<0∨¬za v=true then(6,c)
  else
   let m:=c.filter fun x=> !Zn s b x;let m:=if v=0 then m else znL ⟨s,b,v⟩ m
   if 8<m.length then(5,c) else(0,m)
def YF(g:Grp)(id:ByteArray):Option Ent:=g.es.find? fun e=>e.id==id
def zgz(g:Grp)(e:Ent):Grp:={g with es:=g.es.map fun x=>if x.id==e.id then e else x}
def zkC(g:Grp)(m:Cmd):Int×Grp:=
 if(YF g m.id).isSome then(4,g)
 else if 4≤g.es.length then(5,g)
 else if m.x<1∨10000000<m.x then(1,g)
 else if m.id.size=0∨m.j.size=0∨¬zn m.r=true∨¬yF m.y=true∨¬zl m.p=true then(1,g)
 else(0,{g with es:=g.es++[⟨m.id,m.j,m.x,m.p,[false],⟨0,0,0,m.r,m.y,0,[],[],[]⟩,[]⟩]})
def doD(g:Grp)(m:Cmd):Int×Grp:=
 if m.k=1 then let a:=qy g.t m.j m.y m.r m.p;(a.1,{g with t:=a.2})
 else if m.k=2 then zkC g m
 else if m.k=10 then
  if(YF g m.id).isNone∨(YF g m.id2).isNone then(3,g)
  else let a:=ziW g.c m.id m.id2 m.n;(a.1,{g with c:=a.2})
 else match YF g m.id with
  |none=>(3,g)
  |some e=>
   if m.k=11 then let a:=qU g.t g.js e;(a.1,{zgz g a.2.1 with js:=a.2.2})
   else if m.k=12 then let a:=za1 g.js e;(a.1,{zgz g a.2.1 with js:=a.2.2})
   else let a:=Y5 e m;(a.1,zgz g a.2)
end Go.Proofs.YtdmcfjkgopmlgaaGreatDoor.Ev.CA
namespace Go.Proofs.YtdmcfjkgopmlgaaGreatDoor.Ev.CA
open Go
section
attribute [-simp] List.length_flatMap getElem?_pos
abbrev xi(n:Int):XV:= .v (.int .i64 n)
abbrev xb(b:Bool):XV:= .v (.bool b)
abbrev xs(s:ByteArray):XV:= .v (.str s)
abbrev fi(n:Int):XF:= .s (xi n)
abbrev fb(b:Bool):XF:= .s (xb b)
abbrev fs(s:ByteArray):XF:= .s (xs s)
theorem yB{k n:Nat}(hk:k<n)(hn:n<1000000000):IntKind.i64.wrap ((k:Int)+1)=(k:Int)+1:=ze (by omega) (by omega)
theorem z8(n:Int):Pure C 100 [fi n] (fb (za n)):=by
 refine Pure.intro0 (e:=e100) rfl (zuJ rfl) (by simp) fun g Ψ h0 hJ=> ?_;simp
 repeat' first|(refine zc (fun hc=> ?_) (fun hc=> ?_)<;>try simp)
 all_goals(simp at *;exact q6 h0 (by simp[za, *]<;>omega))
theorem Zc(n:Int):Pure C 64 [fi n] (fb (zn n)):=by
 refine Pure.intro0 (e:=e64) rfl (zuJ rfl) (by simp) fun g Ψ h0 hJ=> ?_;simp
 repeat' first|(refine zc (fun hc=> ?_) (fun hc=> ?_)<;>try simp)
 all_goals(simp at *;exact q6 h0 (by simp[zn, *]<;>omega))
theorem zoC(n:Int):Pure C 108 [fi n] (fb (zn n)):=by
 refine Pure.intro0 (e:=e108) rfl (zuJ rfl) (by simp) fun g Ψ h0 hJ=> ?_;simp
 repeat' first|(refine zc (fun hc=> ?_) (fun hc=> ?_)<;>try simp)
 all_goals(simp at *;exact q6 h0 (by simp[zn, *]<;>omega))
theorem Zh(n:Int):Pure C 30 [fi n] (fb (zl n)):=by
 refine Pure.intro0 (e:=e30) rfl (zuJ rfl) (by simp) fun g Ψ h0 hJ=> ?_;simp
 repeat' first|(refine zc (fun hc=> ?_) (fun hc=> ?_)<;>try simp)
 all_goals(simp at *;exact q6 h0 (by simp[zl, *]<;>omega))
theorem zkY(n:Int):Pure C 109 [fi n] (fb (zl n)):=by
 refine Pure.intro0 (e:=e109) rfl (zuJ rfl) (by simp) fun g Ψ h0 hJ=> ?_;simp
 repeat' first|(refine zc (fun hc=> ?_) (fun hc=> ?_)<;>try simp)
 all_goals(simp at *;exact q6 h0 (by simp[zl, *]<;>omega))
theorem zsD(n:Int):Pure C 107 [fi n] (fb (yF n)):=by
 refine Pure.intro0 (e:=e107) rfl (zuJ rfl) (by simp) fun g Ψ h0 hJ=> ?_;simp
 repeat' first|(refine zc (fun hc=> ?_) (fun hc=> ?_)<;>try simp)
 all_goals(simp at *;exact q6 h0 (by simp[yF, *]<;>omega))
theorem ofX(n r:Int):Pure C 82 [fi n,fi r] (.tup [fi (zg n r),fb (decide (Yx n r))]):=by
 refine Pure.intro0 (e:=e82) rfl (zuJ rfl) (by simp) fun g Ψ h0 hJ=> ?_;simp
 repeat' first|(refine zc (fun hc=> ?_) (fun hc=> ?_)<;>try simp)
 all_goals(refine q6 h0 ?_;simp at *)
 ·simp[zg,Yx];omega
 ·simp[zg,Yx];omega
 ·simp[zg,Yx];omega
 ·simp[zg,Yx];omega
 all_goals
  have hk:Yx n r:=by unfold Yx;omega
  have b:=Jd (n:=n) (r:=r) (N:=400000000000) (R:=10000000) (by omega) (by omega) (by omega);have e:2*n*r=2*(n*r):=Int.mul_assoc _ _ _;have w1:IntKind.i64.wrap (2*n)=2*n:=ze (by omega) (by omega);have w2:IntKind.i64.wrap (2*n*r)=2*n*r:=by rw[e];exact ze (by omega) (by omega)
  refine⟨?_,hk⟩;rw[w1,w2];unfold zg ofF;rw[zuT hk]
 ·rw[zuT (by assumption),ze (n:=2*n*r-1000000) (by rw[e];omega) (by rw[e];omega)];exact zgT (by rw[e];unfold zl1;omega) 2000000 (by omega)
 ·rw[zuV (by omega),ze (n:=2*n*r+1000000) (by rw[e];omega) (by rw[e];omega)];exact zgT (by rw[e];unfold zl1;omega) 2000000 (by omega)
theorem zkX(n r:Int):Pure C 83 [fi n,fi r] (fi (zg n r)):=by
 refine Pure.intro0 (e:=e83) rfl (zuJ rfl) (by simp) fun g Ψ h0 hJ=> ?_;simp
 repeat' first|(refine zc (fun hc=> ?_) (fun hc=> ?_)<;>try simp)|(refine zb.pure (ofX ..) ?_;try simp)
 exact h0
theorem zm5(n r o:Int):Pure C 160 [fi n,fi r,fi o] (fi (zg n r-zg n o)):=by
 refine Pure.intro0 (e:=e160) rfl (zuJ rfl) (by simp) fun g Ψ h0 hJ=> ?_;have b1:=zF n r;have b2:=zF n o;simp
 repeat' first|(refine zc (fun hc=> ?_) (fun hc=> ?_)<;>try simp)|(refine zb.pure (zkX ..) ?_;try simp)
 rw[ze (by omega) (by omega)];exact h0
def Yo(p:Int):Int:=if zl p=true then p.tdiv 4 else -1
theorem ziF(p:Int): -1≤Yo p∧Yo p≤99:=by
 unfold Yo;split
 ·rename_i h;simp[zl] at h;rw[zwA h.1];omega
 ·omega
theorem div4{p:Int}(h:zl p=true):IntKind.i64.wrap (p.tdiv 4)=p.tdiv 4:=by simp[zl] at h;have:p.tdiv 4=p/4:=zwA h.1;rw[this];exact ze (by omega) (by omega)
theorem zli(p:Int):Pure C 167 [fi p] (fi (Yo p)):=by
 refine Pure.intro0 (e:=e167) rfl (zuJ rfl) (by simp) fun g Ψ h0 hJ=> ?_;simp
 repeat' first|(refine zc (fun hc=> ?_) (fun hc=> ?_)<;>try simp)|(refine zb.pure (Zh ..) ?_;try simp)
 ·rw[div4 hc];exact q6 h0 (by simp[Yo,hc])
 ·exact q6 h0 (by simp[Yo,hc])
theorem lossP(n r:Int):Pure C 285 [fi n,fi r] (.tup [fi (zm n r).1,fi (zm n r).2]):=by
 refine Pure.intro0 (e:=e285) rfl (zuJ rfl) (by simp) fun g Ψ h0 hJ=> ?_;simp
 repeat' first|(refine zc (fun hc=> ?_) (fun hc=> ?_)<;>try simp)|(refine zb.pure (z8 ..) ?_;try simp)|(refine zb.pure (Zc ..) ?_;try simp)|(refine zb.pure (ofX ..) ?_;try simp)
 all_goals(refine q6 h0 ?_;simp[zm,za,zn,Yx] at *;(try (refine⟨?_,?_⟩))<;>split<;>simp<;>omega)
def jZ(n r:Int):Int×Int:=if 0≤n∧n≤100000000000∧zn r=true then(-zg n r,0) else(0,1)
theorem zsL(n r:Int):Pure C 286 [fi n,fi r] (.tup [fi (jZ n r).1,fi (jZ n r).2]):=by
 refine Pure.intro0 (e:=e286) rfl (zuJ rfl) (by simp) fun g Ψ h0 hJ=> ?_;have b:=zF n r;simp
 repeat' first|(refine zc (fun hc=> ?_) (fun hc=> ?_)<;>try simp[ze (n:= -zg n r) (by omega) (by omega)])|(refine zb.pure (z8 ..) ?_;try simp[ze (n:= -zg n r) (by omega) (by omega)])|(refine zb.pure (Zc ..) ?_;try simp[ze (n:= -zg n r) (by omega) (by omega)])|(refine zb.pure (ofX ..) ?_;try simp[ze (n:= -zg n r) (by omega) (by omega)])
 all_goals(refine q6 h0 ?_;simp[jZ,za,zn,Yx] at *;(try (refine⟨?_,?_⟩))<;>split<;>simp<;>omega)
theorem zmv(n r:Int):zm n r=if n<0 then(0,1) else if za n=true then if zn r=true then(zg n r,0) else(0,1) else(0,1):=by
 unfold zm;by_cases h1:n<0
 ·rw[zuT h1,zuV (by omega)]
 ·by_cases h2:n≤100000000000
  ·have:za n=true:=by simp[za];omega
   simp[h1,h2,this,show 0≤n by omega]
  ·have:za n=false:=by simp[za];omega
   simp[h1,h2,this]
def qS(n r tax:Int):Int×Int:=if(zm n r).2=0 then(if za ((zm n r).1-tax)=true then((zm n r).1-tax,0) else(0,6)) else(0,(zm n r).2)
theorem trueX(n r tax:Int)(ht:za tax=true):Pure C 215 [fi n,fi r,fi tax] (.tup [fi (qS n r tax).1,fi (qS n r tax).2]):=by
 refine Pure.intro0 (e:=e215) rfl (zuJ rfl) (by simp) fun g Ψ h0 hJ=> ?_;have b:=zF n r;have w:IntKind.i64.wrap (zg n r-tax)=zg n r-tax:=by simp[za] at ht;exact ze (by omega) (by omega)
 simp
 repeat' first|(refine zc (fun hc=> ?_) (fun hc=> ?_)<;>try simp[w,ht])|(refine zb.pure (z8 ..) ?_;try simp[w,ht])|(refine zb.pure (Zc ..) ?_;try simp[w,ht])|(refine zb.pure (ofX ..) ?_;try simp[w,ht])
 all_goals(refine q6 h0 ?_;simp at *)
 all_goals(clear h0 hJ;unfold qS;rw[zmv];(repeat' split)<;>simp_all<;>omega)
section
variable {α:Type} {enc:α→List XV} {t z:Nat}
def RdX(g:XH)(t z:Nat)(enc:α→List XV)(v:XV)(l:List α):Prop:=
 (l=[]∧(v= .v .nils∨v= .nl))∨v= .lst t z l.length (l.flatMap enc)∨∃i w o cs,v= .sl i w o l.length∧zN g i w=some (t,z,cs)∧(o+l.length)*z≤cs.length∧(cs.drop (o*z)).take (l.length*z)=l.flatMap enc
theorem RdX.lst(g:XH)(l:List α):RdX g t z enc (.lst t z l.length (l.flatMap enc)) l:= .inr (.inl rfl)
theorem RdX.sl(he:∀a,(enc a).length=z){g:XH}{i w:Nat}{l:List α}(h:g[i]? =some (.own w t z (l.flatMap enc))):RdX g t z enc (.sl i w 0 l.length) l:=by
 refine .inr (.inr ⟨i,w,0,_,rfl,(by simp only[zN,h,if_true];rfl),?_,?_⟩)
 ·rw[zf he,zvv];exact zuQ _
 ·rw[zv4,zve,←zf he,zvd]
theorem RdX.len{g:XH}{v:XV}{l:List α}(r:RdX g t z enc v l):Jb g (.s v)=some l.length:=by
 rcases r with⟨rfl,rfl|rfl⟩|rfl|⟨i,w,o,cs,rfl,h,_⟩
 ·rfl
 ·rfl
 ·rfl
 ·rfl
theorem RdX.el{g:XH}{v:XV}{l:List α}(r:RdX g t z enc v l):elX g t z (.s v)=some (l.length,l.flatMap enc):=by
 rcases r with⟨rfl,rfl|rfl⟩|rfl|⟨i,w,o,cs,rfl,h,h1,h2⟩
 ·rfl
 ·rfl
 ·cases l with
  |nil=>rfl
  |cons a l=>simp[elX]
 ·simp only[elX,h,and_self,if_true];rw[zuT h1,zax,h2]
theorem RdX.at(he:∀a,(enc a).length=z)(hz:z≠0){g:XH}{v:XV}{l:List α}(r:RdX g t z enc v l){k:Nat}(hk:k<l.length):∃p cs o,jM g t z (k:Int) (.s v)=some p∧rdX g (.s p)=some (cs,o)∧o+z≤cs.length∧(cs.drop o).take z=enc l[k]∧(z=1→∀x,enc l[k]=[x]→cs[o]? =some x):=by
 have fin:∀(cs:List XV) o,o+z≤cs.length→(cs.drop o).take z=enc l[k]→o+z≤cs.length∧(cs.drop o).take z=enc l[k]∧(z=1→∀x,enc l[k]=[x]→cs[o]? =some x):=fun cs o h1 h2=>by refine⟨h1,h2,?_⟩;rintro rfl x hx;rw[hx] at h2;have:=congrArg (fun l=>l[0]?) h2;simpa[zvo,zvR] using this
 obtain⟨a1,a2,_⟩:=atX he hk;rcases r with⟨rfl,_⟩|rfl|⟨i,w,o,cs,rfl,h,h1,h2⟩
 ·simp at hk
 ·exact⟨.lp (l.flatMap enc) (k*z),_,_,by simp[jM,hk],rfl,fin _ _ a1 a2⟩
 ·have e1:(o+k)*z=o*z+k*z:=zvI _ _ _;have e2:(o+l.length)*z=o*z+l.length*z:=zvI _ _ _;have e3:(k+1)*z≤l.length*z:=zvu _ hk;rw[zwU] at e3;refine⟨.ptr i w ((o+k)*z),cs,(o+k)*z,by simp only[jM,h,and_self,if_true,zxP,Int.ofNat_lt,hk,zxW],by simp only[rdX,h],fin _ _ (by omega) ?_⟩;rw[←a2,←h2,e1,←zw5,zw6,zwN,zvD (by omega)]
theorem zc0{g J:XH}{i w:Nat}{x:Nat×Nat×List XV}(h:zN g i w=some x):zN (g++J) i w=some x:=by obtain⟨t,z,cs⟩:=x;have:=jJ h;have hi:=(zuN.1 this.1).1;unfold zN at h⊢;rw[zuO hi];exact h
theorem RdX.app{g J:XH}{v:XV}{l:List α}(r:RdX g t z enc v l):RdX (g++J) t z enc v l:=by
 rcases r with r|r|⟨i,w,o,cs,rfl,h,h1,h2⟩
 ·exact .inl r
 ·exact .inr (.inl r)
 ·exact .inr (.inr ⟨i,w,o,cs,rfl,zc0 h,h1,h2⟩)
end
def ym{α:Type}(q:α→Bool):Nat→List α→Int
 |_,[]=> -1
 |k,x::r=>if q x then(k:Int) else ym q (k+1) r
theorem zbn{α:Type}(q:α→Bool):∀(k:Nat) (l:List α),(ym q k l≥0↔l.any q=true)
 |k,[]=>by simp[ym]
 |k,x::r=>by
  unfold ym;cases hq:q x with
  |true=>simp[hq]
  |false=>simpa[hq] using zbn q (k+1) r
def zj9{α:Type}(g:XH)(f:XV)(enc:α→List XV)(q:α→Bool)(l:List α):Prop:=
 (∃n,f= .v (.fn n)∧∀x∈l,Cl C (fun _=>False) n [.agg (enc x)] g fun u g'=>u=fb (q x)∧g'=g)∨
 ∃i n first caps,f= .cl i∧g[i]? =some (.clo n first caps)∧∀x∈l,Cl C (fun _=>False) n (first++([.agg (enc x)]++caps)) g fun u g'=>u=fb (q x)∧g'=g
def idxL(t z:Nat):EC:=(.seq (.ops [bb 9 .lss 8 7] [0,1,7,8,9]) (.seq (.cond (.t 9) .skip (.exit 0 []))
 (.seq (.block 1 (.seq (.ops [mv 10 8,mv 5 10] [0,1,5,7,8]) (.seq (.ops [mv 11 1,mv 12 0,mv 13 5,ia 14 t z 12 13,ln 15 z 14,gG 16 (.callv (.t 11) [(.t 15)])] [0,1,5,7,8,16]) (.cond (.t 16) (.seq (.ops [mv 17 5,mv 4 17] [4]) (.ret [4])) .skip)))) (.ops [bi 18 .add 8 1,mv 8 18] [0,1,7,8]))))
def idxE(t z:Nat):EF:=⟨19,(.seq (.ops [mi 4 0] [0,1]) (.seq (.seq (.ops [mv 6 0,lE 7 6,mi 8 0] [0,1,7,8]) (.block 0 (.loop [0,1,7,8] (idxL t z)))) (.seq (.ops [mi 4 (-1)] [4]) (.ret [4])))),[.tmp 4]⟩
theorem Ys{α:Type}{enc:α→List XV}{t z f:Nat}(hf:C f=some (idxE t z))(he:∀a,(enc a).length=z)(hz:z≠0){g:XH}{v c:XV}{l:List α}{q:α→Bool}(r:RdX g t z enc v l)(hl:l.length<1000000)(a:zj9 g c enc q l):
 Cl C (fun _=>False) f [.s v,.s c] g fun u g'=>u=fi (ym q 0 l)∧g'=g:=by
 refine Cl.post fun Ψ hΨ=> ?_;refine Cl.intro hf (zuJ rfl) ?_;simp[idxE,r.len];refine Lp.gen l.length (fun k (_:Unit)=>[(0,some (.s v)),(1,some (.s c)),(7,some (fi l.length)),(8,some (fi k))]) (fun _ _=>g) (fun k _=>ym q k (l.drop k)=ym q 0 l) () (by decide) (fun _ _=>rfl) rfl ?_ ?_
 ·intro k h s hi hlt N hN;obtain⟨p,cs,o,b1,b2,b3,b4,_⟩:=r.at he hz h;rw[zvt h,ym] at hi;have hx:l[k]∈l:=zvi h;have hn:=yB h (by omega);have go:∀B:Nat→Prop,∀Ψ':XF→XH→Prop,Ψ' (fb (q l[k])) g→cv' C B (some (.s c)) (some [.agg (enc l[k])]) g Ψ':=fun B Ψ' hp=>by
   rcases a with⟨n,rfl,hq⟩|⟨i,n,first,caps,rfl,hi,hq⟩
   ·rw[cv_fn];exact zb.go (hq _ hx) (fun _ _ h=>h.elim) (by rintro u g' ⟨rfl,rfl⟩;exact hp)
   ·rw[cv_cl,hi];simp only[zu9];exact zb.go (hq _ hx) (fun _ _ h=>h.elim) (by rintro u g' ⟨rfl,rfl⟩;exact hp)
  simp[idxL,h,b1,b2,b3,b4,hz];refine go _ _ ?_;simp;refine zc (fun hq=> ?_) (fun hq=> ?_)
  ·rw[zuT hq] at hi;simp;exact Gh.here (hΨ _ _ ⟨by rw[hi],rfl⟩)
  ·rw[zuV (by simp[hq])] at hi;simp[hn];exact qG () hN hi (by simp) (by simpa using hlt)
 ·intro s hi;rw[zwP (zuQ _),ym] at hi;simp[idxL];exact Gh.here (hΨ _ _ ⟨by rw[←hi],rfl⟩)
def conE(f:Nat):EF:=⟨9,(.seq (.ops [mb 4 false] [0,1]) (.seq (.ops [mv 5 0,mv 6 1,cb 7 f 5 6,bi 8 .geq 7 0,mv 4 8] [4]) (.ret [4]))),[.tmp 4]⟩
theorem Qv{α:Type}{enc:α→List XV}{t z f fi':Nat}(hc:C f=some (conE fi'))(hf:C fi'=some (idxE t z))(he:∀a,(enc a).length=z)(hz:z≠0){g:XH}{v c:XV}{l:List α}{q:α→Bool}(r:RdX g t z enc v l)(hl:l.length<1000000)(a:zj9 g c enc q l):
 Cl C (fun _=>False) f [.s v,.s c] g fun u g'=>u=fb (l.any q)∧g'=g:=by
 refine Cl.post fun Ψ hΨ=> ?_;refine Cl.intro hc (zuJ rfl) ?_;simp[conE];refine zb.go (Ys hf he hz r hl a) (fun _ _ h=>h.elim) ?_;rintro u g' ⟨rfl,rfl⟩;simp;refine Gh.here (hΨ _ _ ⟨?_,rfl⟩);have:=zbn q 0 l;cases h:l.any q with
 |true=>simp[this.2 h]
 |false=>
  have:¬ym q 0 l≥0:=fun h'=>by rw[this.1 h'] at h;cases h
  simp;omega
theorem Cl.gh{W:Nat→Prop}{f:Nat}{args:List XF}{g:XH}{Ψ:XF→XH→Prop}(w:Cl C W f args g (Gh W g Ψ)):Cl C W f args g Ψ:=by rintro R args1 rfl H ra;refine(w R args1 rfl H ra).mono ?_;rintro u1 h1 ⟨R',u,rfl,a2,a3,a4,a5⟩;obtain⟨R2,u2,b1,b2,b3,b4,b5⟩:=a5 R R' u1 rfl H a2 a3 rfl a4;exact⟨R2,u2,b1,b2,b3,b4,b5⟩
def qk(g:XH)(t z n:Nat)(cells:List XV):XF→XH→Prop:=fun u g'=>∃w,u= .s (.sl g.length w 0 n)∧g'=g++[.own w t z cells]
theorem Fresh.frz{W:Nat→Prop}{f:Nat}{args:List XF}{g:XH}{t z n:Nat}{cells:List XV}(w:Cl C W f args g (qk g t z n cells))(hl:zr g.length cells)(hn:n*z=cells.length):Cl C W f args g fun u g'=>u= .s (.lst t z n cells)∧g'=g:=by refine Cl.gh (w.mono ?_);rintro u g' ⟨w,rfl,rfl⟩;exact Gh.pure (.s (.full (zuQ _) (fun j=>by simp) (by simp) hn (.lts hl))) ⟨rfl,rfl⟩
theorem fzh1{W:Nat→Prop}{g J:XH}{k w t z:Nat}{cs:List XV}(hJ:J[k]? =some (.own w t z cs))(hl:zr g.length cs):FzH W g.length J [some k] [.own w t z cs] g g g:=by
 refine⟨rfl,rfl,fun i o e=> .inl ⟨e,.inl e⟩,rfl,fun j j' k e e'=> ?_,fun j o e=> ?_⟩
 ·have h1:=(zuN.1 e).1;have h2:=(zuN.1 e').1;simp at h1 h2;omega
 ·have h1:=(zuN.1 e).1;obtain rfl:j=0:=by simpa using h1
  simp only[zvC,zuI] at e;exact .inr ⟨k,w,t,z,cs,cs,rfl,hJ,e.symm,.lts hl⟩
theorem fzg1{W:Nat→Prop}{g J:XH}{t z:Nat}:FzH W g.length J [none] [.own 0 t z []] g g g:=by
 refine⟨rfl,rfl,fun i o e=> .inl ⟨e,.inl e⟩,rfl,fun j j' k e e'=> ?_,fun j o e=> ?_⟩
 ·have h1:=(zuN.1 e).1;obtain rfl:j=0:=by simpa using h1
  simp at e
 ·have h1:=(zuN.1 e).1;obtain rfl:j=0:=by simpa using h1
  simp only[zvC,zuI] at e;exact .inl ⟨rfl,t,z,e.symm⟩
theorem zhq{W:Nat→Prop}{g J:XH}{k w t z n:Nat}{cs:List XV}{Ψ:XF→XH→Prop}(hJ:J[k]? =some (.own w t z cs))(hl:zr g.length cs)(h:∀u g',qk g t z n cs u g'→Ψ u g'):Gh W g Ψ (.s (.sl (g.length+k) w 0 n)) (g++J):=
 Gh.keep [some k] [.own w t z cs] (fzh1 hJ hl) (.s (.ksl (j:=0) rfl)) (h _ _ ⟨w,rfl,rfl⟩)
theorem ztm{W:Nat→Prop}{g J:XH}{t z:Nat}{Ψ:XF→XH→Prop}(h:∀u g',qk g t z 0 [] u g'→Ψ u g'):Gh W g Ψ (.s (.v .nils)) (g++J):=
 Gh.keep [none] [.own 0 t z []] fzg1 (.s (.gh (j:=0) (t:=t) (z:=z) rfl rfl)) (h _ _ ⟨0,rfl,rfl⟩)
theorem zky{W:Nat→Prop}{g:XH}{t z:Nat}{Ψ:XF→XH→Prop}(h:∀u g',qk g t z 0 [] u g'→Ψ u g'):Gh W g Ψ (.s (.v .nils)) g:=by
 have:=ztm (W:=W) (J:=[]) h
 rwa [zvl] at this
def zlz(t z y:Nat)(zs:List SV):EF:=⟨8,(.seq (.ops [mc 2 .nils] [0]) (.seq (.seq (.ops [mv 3 0,gG 4 (.eqn false (.t 3) (.c (.s .nils)))] [0,4]) (.cond (.t 4) (.seq (.ops [mc 2 .nils] [2]) (.ret [2])) .skip)) (.seq (.ops [gG 5 (.bsl t 0 zs []),mv 6 0,ap 7 t z y 5 6,mv 2 7] [2]) (.ret [2])))),[.tmp 2]⟩
theorem Y2{α:Type}{enc:α→List XV}{t z y f:Nat}{zs:List SV}(hf:C f=some (zlz t z y zs))(hzs:zs.length=z)(hnl:zs.all nlS=true)(he:∀a,(enc a).length=z)(hz:z≠0){g:XH}{v:XV}{l:List α}(r:RdX g t z enc v l)(hlv:∀a,zr g.length (enc a))(hy:l.length*y≤140737488355328):
 Cl C (fun _=>False) f [.s v] g (qk g t z l.length (l.flatMap enc)):=by
 refine Cl.post fun Ψ hΨ=> ?_;refine Cl.intro hf (zuJ rfl) ?_;have hlen:(l.flatMap enc).length=l.length*z:=zf he l;have hl:=zQ hlv l;have e1:=r.el;have e2:elX (g++[XO.own 0 t z []]) t z (.s v)=some (l.length,l.flatMap enc):=r.app.el;have hq:(Jf g (.s v)=some (some true)∧l=[])∨(Jf g (.s v)=some none∧l=[])∨Jf g (.s v)=some (some false):=by
  rcases r with⟨rfl,rfl|rfl⟩|rfl|⟨i,w,o,cs,rfl,h,h1,h2⟩
  ·exact .inl ⟨rfl,rfl⟩
  ·exact .inr (.inl ⟨rfl,rfl⟩)
  ·cases l with
   |nil=>exact .inr (.inl ⟨rfl,rfl⟩)
   |cons a l=>exact .inr (.inr rfl)
  ·rw[zkP,h];simp only;by_cases h0:cs.length=0
   ·rw[zuT h0];refine .inr (.inl ⟨rfl,?_⟩);have:(o+l.length)*z=o*z+l.length*z:=zvI _ _ _;have h3:l.length*z=0:=by omega
    exact zv3 ((Nat.mul_eq_zero.1 h3).resolve_right hz)
   ·rw[zuV h0];exact .inr (.inr rfl)
 have tru:l=[]→Gh (fun _=>False) g Ψ (.s (.v .nils)) g:=fun h=>by subst h;exact zky hΨ
 have fr:∀w cells,l.flatMap enc=cells→Gh (fun _=>False) g Ψ (.s (.sl g.length w 0 l.length)) (g++[.own w t z cells]):=fun w cells h=>by subst h;exact zhq (k:=0) (J:=[.own w t z (l.flatMap enc)]) rfl hl hΨ
 by_cases h0:l.length=0
 ·have hn:l=[]:=zv3 h0;rw[hn] at fr;rcases hq with⟨hq,_⟩|⟨hq,_⟩|hq
  ·simp[zlz,hq];exact tru hn
  ·simp[zlz,hq,e2,hnl,hzs,rep,h0];refine zmL ?_ ?_
   ·simp;exact tru hn
   ·simp[e2,hnl,hzs,rep,h0];exact fr 0 [] rfl
  ·simp[zlz,hq,e2,hnl,hzs,rep,h0];exact fr 0 [] rfl
 ·have h1:(l.flatMap enc).length≠0:=by rw[hlen];exact zxw h0 hz
  have h2:¬l.flatMap enc=[]:=fun h=>h1 (by rw[h];rfl);rcases hq with⟨_,hn⟩|⟨_,hn⟩|hq
  ·exact absurd (by rw[hn];rfl) h0
  ·exact absurd (by rw[hn];rfl) h0
  ·simp[zlz,hq,e2,hnl,hzs,rep,h0,zfI h0,h1,h2,hy];exact fr 1 _ rfl
attribute [simp] qf lvO
theorem y0(a b:ByteArray):(a.toList==b.toList)=decide (a=b):=by
 rw[←z2];by_cases e:a=b
 ·subst e;rw[z2];simp
 ·have h1:(a==b)=false:=by rw[z2];exact zv7 e
  rw[h1];have:¬a.toList=b.toList:=fun h=>e (by
   rw[zv1,zv1] at h;obtain⟨a⟩:=a;obtain⟨b⟩:=b;have:a=b:=Array.toList_inj.1 h;rw[this])
  simpa using this
def yT(x:Rw):List XV:=[xs x.j,xi x.y,xi x.r,xi x.p]
theorem qq(x:Rw):(yT x).length=4:=rfl
theorem znv(m:Nat)(l:List Rw):zr m (l.flatMap yT):=zQ (fun a=>by simp[yT]) l
attribute [simp] znv
def qO(T R:Nat)(g:XH)(i k:Nat)(t:List Rw):Prop:=∃w,g[i]? =some (.own 0 T 1 [.sl k w 0 t.length])∧g[k]? =some (.own w R 4 (t.flatMap yT))
theorem sameP(x:Rw)(j:ByteArray)(y p:Int){g:XH}{a b d:Nat}(ha:g[a]? =some (.own 0 9 1 [xs j]))(hb:g[b]? =some (.own 0 3 1 [xi y]))(hd:g[d]? =some (.own 0 3 1 [xi p])):Cl C (fun _=>False) 63 [.agg (yT x),.s (.ptr a 0 0),.s (.ptr b 0 0),.s (.ptr d 0 0)] g fun u g'=>u=fb (Ji j y p x)∧g'=g:=by
 have la:=(zuN.1 ha).1;have lb:=(zuN.1 hb).1;have ld:=(zuN.1 hd).1;refine Cl.ip rfl (zuJ rfl) fun Ψ hΨ=> ?_;simp[yT,ha,hb,hd,la,lb,ld,y0]
 repeat' first|(refine zc (fun hc=> ?_) (fun hc=> ?_)<;>try simp[ha,hb,hd,la,lb,ld,y0])
 all_goals(refine Gh.pure (.s (.lt (by simp))) (hΨ _ _ ⟨?_,rfl⟩);simp at *;simp[Ji,z2, *])
theorem zd{g:XH}{i:Nat}{o:XO}(h:g[i]? =some o):i<g.length:=(zuN.1 h).1
theorem zcB{W:Nat→Prop}{g J:XH}{a b:Nat}{A B:XO}{Ψ:XF→XH→Prop}{u:XF}(hA:lvO g.length A)(hB:lvO g.length B)(hu:lvF g.length u)(h:Ψ u ((g.set a A).set b B)):Gh W g Ψ u (((g.set a A).set b B)++J):=
 Gh.fz ((FzH.refl.set a hA).set b hB) (.lt hu) h
theorem yZ{g:XH}{i:Nat}{o:XO}(h:g[i]? =some o):g.set i o=g:=by obtain⟨l,rfl⟩:=zuN.1 h;exact zxb l
def JF(T R:Nat)(g:XH)(i k w:Nat)(t:List Rw):XH:=(g.set k (.own w R 4 (t.flatMap yT))).set i (.own 0 T 1 [.sl k w 0 t.length])
theorem qO.same{T R:Nat}{g:XH}{i k:Nat}{t:List Rw}(h:qO T R g i k t):∃w,g=JF T R g i k w t:=by obtain⟨w,h1,h2⟩:=h;exact⟨w,by unfold JF;rw[yZ h2,yZ h1]⟩
theorem ye{j:ByteArray}:j.toList.isEmpty=decide (j.size=0):=by rw[zv1];obtain⟨d⟩:=j;show d.toList.isEmpty=decide (d.size=0);rw[←zxo];cases d.toList<;>simp
theorem zuh{g:XH}{i k:Nat}{t:List Rw}(ht:qO 145 140 g i k t)(hne:i≠k)(hl:t.length≤24)(j:ByteArray)(y r p:Int):
 Cl C (fun x=>x=i∨x=k) 25 [.s (.ptr i 0 0),fs j,fi y,fi r,fi p] g fun u g'=>u=fi (qy t j y r p).1∧∃w,g'=JF 145 140 g i k w (qy t j y r p).2:=by
 obtain⟨w0,he⟩:=ht.same;obtain⟨w,hi,hk⟩:=ht;have li:=zd hi;have lk:=zd hk;have hlen:(t.flatMap yT).length=t.length*4:=zf qq t;have g1:∀x,(g.set k x)[i]? =g[i]? :=fun x=>zH hne.symm;refine Cl.ip rfl (zuJ rfl) fun Ψ hΨ=> ?_;have no:∀n J,qy t j y r p=(n,t)→Gh (fun x=>x=i∨x=k) g Ψ (fi n) (g++J):=fun n J h=>Gh.pure (.s (.lt (by simp))) (hΨ _ _ ⟨by rw[h],w0,by rw[h];exact he⟩);simp[hi,hk,li,lk,ye]
 repeat' first|(refine zc (fun hc=> ?_) (fun hc=> ?_)<;>try simp[hi,hk,li,lk])|(refine zb.pure (Zc ..) ?_;try simp[hi,hk,li,lk])|(refine zb.pure (Zh ..) ?_;try simp[hi,hk,li,lk])
 case refine_2.refine_2.refine_2.refine_1.refine_1=>
  have hq:∀x∈t,Cl C (fun _=>False) 63 ([]++([.agg (yT x)]++[.s (.ptr g.length 0 0),.s (.ptr (g.length+1) 0 0),.s (.ptr (g.length+2) 0 0)])) (g++[.own 0 9 1 [xs j],.own 0 3 1 [xi y],.own 0 3 1 [xi p],.clo 63 [] [.s (.ptr g.length 0 0),.s (.ptr (g.length+1) 0 0),.s (.ptr (g.length+2) 0 0)]]) fun u g'=>u=fb (Ji j y p x)∧g'=g++[.own 0 9 1 [xs j],.own 0 3 1 [xi y],.own 0 3 1 [xi p],.clo 63 [] [.s (.ptr g.length 0 0),.s (.ptr (g.length+1) 0 0),.s (.ptr (g.length+2) 0 0)]]:=fun x _=>sameP x j y p (by simp) (by simp) (by simp);refine zb.go (Qv (f:=65) (fi':=129) rfl rfl qq (by decide) (RdX.sl qq (g:=g) hk).app (by omega) (.inr ⟨g.length+3,_,_,_,rfl,by simp,hq⟩)) (fun _ _ h=>h.elim) ?_;rintro u g' ⟨rfl,rfl⟩;simp[hi,hk,li,lk];simp only[zuZ,zvM] at *;have hneg:¬(j.size=0∨¬yF y=true∨¬zn r=true∨¬zl p=true):=by simp[yF, *]
  unfold qy at no hΨ;rw[zuV hneg] at no hΨ;refine zc (fun hc=> ?_) (fun hc=> ?_)
  ·simp;exact no 4 _ (by rw[zuT hc])
  rw[zuV (by simp[hc])] at no hΨ;simp[hi,hk,li,lk];refine zc (fun hc=> ?_) (fun hc=> ?_)
  ·simp at hc⊢;exact no 5 _ (by rw[zuT (by omega)])
  ·simp at hc;rw[zuV (by omega)] at hΨ;simp[hlen,show(t.length+1)*40≤140737488355328 by omega,hi,hk,g1,li,lk];refine zcB (by simp[yT]) (by simp[lk]) (by simp) (hΨ _ _ ⟨rfl,w+1,?_⟩);simp[JF,yT]
 all_goals
  simp only[zuZ,zvM] at *;exact no _ _ (by unfold qy;rw[zuT];simp[yF, *]<;>omega)
def rwOf(s:Option Rw):Rw:=s.getD ⟨⟨#[]⟩,0,0,0⟩
@[simp] theorem zuG(b:Rw):rwOf (some b)=b:=rfl
theorem zgS{g:XH}{i k:Nat}{t:List Rw}(ht:qO 145 140 g i k t)(hl:t.length≤1000)(j:ByteArray)(y p:Int):
 Cl C (fun _=>False) 166 [.s (.ptr i 0 0),fs j,fi y,fi p] g fun u g'=>u= .tup [fi ((jm t j y p).getD 0),fb (jm t j y p).isSome]∧g'=g:=by
 obtain⟨w,hi,hk⟩:=ht;have li:=zd hi;have lk:=zd hk;refine Cl.ip rfl (zuJ rfl) fun Ψ hΨ=> ?_;simp[hi,hk,li,lk];refine Lp.fold (keep:=[1,2,3,10,11,18,19,20]) t (fun q s=>[(1,some (fs j)),(2,some (fi y)),(3,some (fi p)),(10,some (.s (.ptr g.length 0 0))),(11,some (fb s.isSome)),(18,some (.s (.sl k w 0 t.length))),(19,some (fi t.length)),(20,some (fi q))]) (fun _ s=>g++[.own 0 140 4 (yT (rwOf s))]) (QW j y p) none (by decide) (fun _ _=>rfl) ?_ ?_
 ·intro q hq s hs hlt N hN;obtain⟨a1,a2,_⟩:=atX qq hq;generalize t[q]=x at *;have hn:=yB hq (by omega);have go:∀s',QW j y p s x=s'→∀J fr,fr=[(1,some (fs j)),(2,some (fi y)),(3,some (fi p)),(10,some (.s (.ptr g.length 0 0))),(11,some (fb s'.isSome)),(18,some (.s (.sl k w 0 t.length))),(19,some (fi t.length)),(20,some (fi ((q:Int)+1)))]→N fr (g++ .own 0 140 4 (yT (rwOf s'))::J):=fun s' e J fr hf=>by
   subst hf;rw[e] at hN;exact zcH hN J rfl (by simp) (by simpa using hlt) (by simp) (by simp[yT])
  clear hlt hN hs;cases s with
  |none=>
   simp[l166_0,hq,a1,a2,hk,lk,yT,y0,hn]
   repeat' first|(refine zc (fun hc=> ?_) (fun hc=> ?_)<;>try simp[hq,a1,a2,hk,lk,yT,y0,hn])
   all_goals
    simp only[zuZ,zvM] at *
    first
     |exact go none (by simp only[QW,zar,z2]<;>(repeat' split)<;>simp_all<;>omega) _ _ rfl
     |exact go (some x) (by simp only[QW,zar,z2]<;>(repeat' split)<;>simp_all<;>omega) _ _ rfl
     |trace_state
  |some b=>
   simp[l166_0,hq,a1,a2,hk,lk,yT,y0,hn]
   repeat' first|(refine zc (fun hc=> ?_) (fun hc=> ?_)<;>try simp[hq,a1,a2,hk,lk,yT,y0,hn])
   all_goals
    simp only[zuZ,zvM] at *
    first
     |exact go (some b) (by simp only[QW,zar,z2]<;>(repeat' split)<;>simp_all<;>omega) _ _ rfl
     |exact go (some x) (by simp only[QW,zar,z2]<;>(repeat' split)<;>simp_all<;>omega) _ _ rfl
     |trace_state
 ·intro s hs;simp[l166_0,yT];refine Gh.pure (.cons (.s (.lt (by simp))) (.cons (.s (.lt (by simp))) .nil)) (hΨ _ _ ⟨?_,rfl⟩);rw[hs];unfold jm;cases t.foldl (QW j y p) none<;>rfl
theorem ZW:∀(b' b c:List XV) (a:List XV),b'.length=b.length→setX (a++(b++c)) a.length b'=a++(b'++c)
 |[],[],c,a,_=>by simp[setX]
 |x::b',y::b,c,a,h=>by
  have ih:=ZW b' b c (a++[x]) (by simpa using h);simp only[zuR,zuW,zu9,List.singleton_append] at ih;simp only[setX];have e:(a++(y::b++c)).set a.length x=a++x::(b++c):=by rw[zvX _ _ (zuQ _),zvN];rfl
  rw[e,ih];rfl
theorem ZV{a b:List XV}(h:b.length=a.length):setX a 0 b=b:=by have:=ZW b a [] [] h;simpa using this
theorem zbo{α:Type}{enc:α→List XV}{z:Nat}(he:∀a,(enc a).length=z){m:List α}{i:Nat}(hi:i<m.length)(x:α)(post:List XV):setX (m.flatMap enc++post) (i*z) (enc x)=(m.set i x).flatMap enc++post:=by
 have e1:m=m.take i++m[i]::m.drop (i+1):=by rw[←zvt hi,zvn]
 have e2:m.set i x=m.take i++x::m.drop (i+1):=by rw[List.set_eq_take_append_cons_drop,zuT hi]
 have l1:((m.take i).flatMap enc).length=i*z:=by rw[zf he,zu6,zvD (by omega)]
 rw[e2]
 conv=>lhs;rw[e1]
 simp only[zvq,zvS,zu9];have:=ZW (enc x) (enc m[i]) ((m.drop (i+1)).flatMap enc++post) ((m.take i).flatMap enc) (by rw[he,he]);simpa only[zuR,l1,zu9] using this
theorem zjb{α:Type}{enc:α→List XV}{z:Nat}(he:∀a,(enc a).length=z){m:List α}{i:Nat}(hi:i≤m.length)(b post:List XV)(hb:b.length=(m.length-i)*z):setX (m.flatMap enc++post) (i*z) b=(m.take i).flatMap enc++(b++post):=by
 have l1:((m.take i).flatMap enc).length=i*z:=by rw[zf he,zu6,zvD (by omega)]
 conv=>lhs;rw[←zvn i m]
 rw[zvq,zu9];have:=ZW b ((m.drop i).flatMap enc) post ((m.take i).flatMap enc) (by rw[hb,zf he,zvY])
 rwa [l1] at this
theorem zdl{α:Type}(q:α→Bool):∀(l:List α) (k:Nat),(ym q k l= -1∧l.any q=false)∨∃i,ym q k l=((k+i:Nat):Int)∧i<l.length∧(l.take i).any q=false∧(l[i]?).map q=some true
 |[],k=> .inl ⟨rfl,rfl⟩
 |x::l,k=>by
  unfold ym;cases hx:q x with
  |true=>exact .inr ⟨0,rfl,zx9 _,rfl,by simp[hx]⟩
  |false=>
   rcases zdl q l (k+1) with⟨e1,e2⟩|⟨i,e1,e2,e3,e4⟩
   ·exact .inl ⟨by simp[e1],by simp[hx,e2]⟩
   ·exact .inr ⟨i+1,by simp[e1];omega,Nat.succ_lt_succ e2,by rw[zu8,List.any_cons,hx,e3];rfl,by simpa using e4⟩
theorem JV{α:Type}{q:α→Bool}{l:List α}(h:l.any q=false):l.filter (fun x=> !q x)=l:=by rw[List.filter_eq_self];intro x hx;rw[List.any_eq_false] at h;simp[h x hx]
theorem zn1{m n:Nat}{zs:List SV}:zr m ((rep n zs).map .v):=by
 induction(rep n zs) with
 |nil=>simp[zr]
 |cons a l ih=>simp only[zu7,zr,lvV];exact⟨trivial,ih⟩
theorem zk5{n:Nat}{zs:List SV}{z:Nat}(h:zs.length=z):(rep n zs).length=n*z:=by unfold rep;simp[h]
def delL(t z:Nat)(zs:List SV):EC:=(.seq (.seq (.ops [mv 16 6,mv 17 0,lE 18 17,bb 19 .lss 16 18] [0,1,5,6,19]) (.cond (.t 19) .skip (.exit 0 [0,5])))
 (.seq (.block 1 (.seq (.ops [mv 22 0,mv 23 6,ia 24 t z 22 23,ln 25 z 24,gG 7 (.new t z (.c (.agg zs))),sr z 7 25] [0,1,5,6,7]) (.seq (.ops [mv 26 1,ln 27 z 7,gG 28 (.callv (.t 26) [(.t 27)]),nT 29 28] [0,1,5,6,7,29]) (.cond (.t 29) (.seq (.ops [mv 30 0,mv 31 5,ln 32 z 7,ia 33 t z 30 31,sr z 33 32] [0,1,5,6]) (.ops [mv 34 5,bi 35 .add 34 1,mv 5 35] [0,1,5,6])) .skip)))) (.ops [mv 20 6,bi 21 .add 20 1,mv 6 21] [0,1,5,6])))
def delE(t z:Nat)(zs:List SV)(fi:Nat):EF:=⟨42,(.seq (.ops [mc 4 .nils] [0,1]) (.seq (.ops [mv 8 0,mv 9 1,cb 10 fi 8 9,mv 5 10] [0,1,5]) (.seq (.seq (.ops [mv 11 5,bi 12 .eql 11 (-1)] [0,1,5,12]) (.cond (.t 12) (.seq (.ops [mv 13 0,mv 4 13] [4]) (.ret [4])) .skip))
 (.seq (.seq (.ops [mv 14 5,bi 15 .add 14 1,mv 6 15] [0,1,5,6]) (.block 0 (.loop [0,1,5,6] (delL t z zs)))) (.seq (.ops [mv 36 0,mv 37 5,gG 38 (.sli t z (.t 36) (some (.t 37)) none),gN (.clr t zs (.t 38))] [0,5]) (.seq (.ops [mv 39 0,mv 40 5,gG 41 (.sli t z (.t 39) none (some (.t 40))),mv 4 41] [4]) (.ret [4]))))))),[.tmp 4]⟩
def AsksA{α:Type}(g:XH)(k w t z:Nat)(f:XV)(enc:α→List XV)(q:α→Bool)(l:List α):Prop:=∀cells J,zj9 (g.set k (.own w t z cells)++J) f enc q l
theorem zcv{α:Type}{enc:α→List XV}{t z f fi':Nat}{zs:List SV}(hf:C f=some (delE t z zs fi'))(hfi:C fi'=some (idxE t z))(hz:z≠0)(hzs:zs.length=z)(hnl:zs.all nlS=true)(he:∀a,(enc a).length=z){g:XH}{c:XV}{l:List α}{q:α→Bool}{k w:Nat}{junk:List XV}(hk:g[k]? =some (.own w t z (l.flatMap enc++junk)))(hl:l.length<1000000)(hlv:∀a m,zr m (enc a))(hj:∀m,zr m junk)(a:AsksA g k w t z c enc q l):
 Cl C (fun x=>x=k) f [.s (.sl k w 0 l.length),.s c] g fun u g'=>∃junk',(∀m,zr m junk')∧u= .s (.sl k w 0 (l.filter fun x=> !q x).length)∧g'=g.set k (.own w t z ((l.filter fun x=> !q x).flatMap enc++junk')):=by
 refine Cl.post fun Ψ hΨ=> ?_;refine Cl.intro hf (zuJ rfl) ?_;have lk:=zd hk;have r:RdX g t z enc (.sl k w 0 l.length) l:=by
  refine .inr (.inr ⟨k,w,0,_,rfl,(by simp only[zN,hk,if_true];rfl),?_,?_⟩)
  ·rw[zuR,zf he,zvv];exact zwS _ _
  ·rw[zv4,zve,←zf he,zwc];rfl
 have a0:zj9 g c enc q l:=by have:=a (l.flatMap enc++junk) [];rwa [yZ hk,zvl] at this
 simp[delE];refine zb.go0 (Ys hfi he hz r hl a0) ?_;rcases zdl q l 0 with⟨e1,e2⟩|⟨i0,e1,e2,e3,e4⟩
 ·simp[e1];refine Gh.here (hΨ _ _ ⟨junk,hj,?_,?_⟩)
  ·rw[JV e2]
  ·rw[JV e2,yZ hk]
 ·rw[zvv] at e1;have w1:IntKind.i64.wrap ((i0:Int)+1)=((i0+1:Nat):Int):=ze (by omega) (by omega);have n1:¬((i0:Int)= -1):=by omega
  have n2:((i0:Int)== -1)=false:=by simp
  simp[e1,n1,n2,w1];obtain⟨x0,hx0,hq0⟩:∃x,l[i0]? =some x∧q x=true:=by rw[zuY e2] at e4⊢;exact⟨_,rfl,by simpa using e4⟩
  have ht0:l.take i0=(l.take (i0+1)).filter fun x=> !q x:=by rw[zxh,hx0,zwG,JV e3];simp[hq0]
  have gk:∀X:XO,(g.set k X)[k]? =some X:=fun X=>yn lk;have e0:g=g.set k (.own w t z (l.flatMap enc++junk)):=(yZ hk).symm;have cl:∀m:List α,m.length=l.length→(m.flatMap enc++junk).length=l.length*z+junk.length:=fun m hm=>by rw[zuR,zf he,hm]
  have main:=Lp.gen (keep:=[0,1,5,6]) (σ:=Nat×List α) (C:=C) (B:=fun i=>g.length≤i∨i=k) (b:=delL t z zs) (Φ:=KBx 0 (Kx C (fun i=>g.length≤i∨i=k) (.seq (.ops [mv 36 0,mv 37 5,gG 38 (.sli t z (.t 36) (some (.t 37)) none),gN (.clr t zs (.t 38))] [0,5]) (.seq (.ops [mv 39 0,mv 40 5,gG 41 (.sli t z (.t 39) none (some (.t 40))),mv 4 41] [4]) (.ret [4]))) (KRx [.tmp 4] (Gh (fun x=>x=k) g Ψ)))) (l.length-(i0+1)) (fun r s=>[(0,some (.s (.sl k w 0 l.length))),(1,some (.s c)),(5,some (fi s.1)),(6,some (fi ((i0+1+r:Nat):Int)))]) (fun _ s=>g.set k (.own w t z (s.2.flatMap enc++junk)))
   (fun r s=>s.1<i0+1+r∧s.2.length=l.length∧s.2.take s.1=(l.take (i0+1+r)).filter (fun x=> !q x)∧s.2.drop (i0+1+r)=l.drop (i0+1+r)) (i0,l) (by decide) (fun _ _=>rfl) ⟨zwL _,rfl,ht0,rfl⟩ ?_ ?_
  ·simp only at main;rw[←e0] at main;exact main
  ·rintro r hr ⟨i,m⟩ ⟨p1,p2,p3,p4⟩ hlt N hN;simp only at p1 p2 p3 p4 hlt hN⊢;generalize hjj:i0+1+r=j at *;have hjl:j<l.length:=by omega
   have hmj:j<m.length:=by omega
   have hmi:i<m.length:=by omega
   have emj:m[j]=l[j]:=by have:=congrArg (fun L=>L[0]?) p4;simp only[zvR,zwe] at this;rw[zuY hmj,zuY hjl] at this;exact zuK this
   obtain⟨a1,a2,_⟩:=atX he hmj;have b1:j*z+z≤(m.flatMap enc++junk).length:=by rw[zuR];omega
   have b2:((m.flatMap enc++junk).drop (j*z)).take z=enc l[j]:=by rw[zxF (by omega),zw4 (by rw[zvY];omega),a2,emj]
   have b3:i*z+z≤(m.flatMap enc++junk).length:=by obtain⟨a1,_,_⟩:=atX he hmi;rw[zuR];omega
   have b4:(m.flatMap enc++junk).length≠0:=by have:=zxx hz;omega
   have b5:=zbo he hmi l[j] junk;have hx:l[j]∈l:=zvi hjl;have wj:IntKind.i64.wrap ((j:Int)+1)=((j+1:Nat):Int):=ze (by omega) (by omega);have wi:IntKind.i64.wrap ((i:Int)+1)=((i+1:Nat):Int):=ze (by omega) (by omega);have htk:l.take (j+1)=l.take j++[l[j]]:=zu3 hjl;have hdj:l.drop j=l[j]::l.drop (j+1):=zvt hjl;have go:∀B:Nat→Prop,∀g1,(∃J,g1=g.set k (.own w t z (m.flatMap enc++junk))++J)→∀Ψ':XF→XH→Prop,Ψ' (fb (q l[j])) g1→xcv C B (some (.s c)) (some [.agg (enc l[j])]) g1 Ψ' .mk:=fun B g1 ⟨J,hg1⟩ Ψ' hp=>by
    subst hg1;rcases a (m.flatMap enc++junk) J with⟨n,rfl,hq⟩|⟨i,n,first,caps,rfl,hi,hq⟩
    ·rw[zpk];exact zb.go (hq _ hx) (fun _ _ h=>h.elim) (by rintro u g' ⟨rfl,rfl⟩;exact hp)
    ·rw[zpj,hi,zpi];simp only[zu9];exact zb.go (hq _ hx) (fun _ _ h=>h.elim) (by rintro u g' ⟨rfl,rfl⟩;exact hp)
   have step1:q l[j]=true→m.take i=(l.take (j+1)).filter (fun x=> !q x):=fun hq=>by rw[htk,zwG,p3];simp[hq]
   have step2:q l[j]=false→(m.set i l[j]).take (i+1)=(l.take (j+1)).filter (fun x=> !q x):=fun hq=>by rw[htk,zwG,←p3,zu3 (by simpa using hmi),List.take_set_of_le (zuQ _)];simp[hq]
   have hd:m.drop (j+1)=l.drop (j+1):=by have e:m.drop j=m[j]::m.drop (j+1):=zvt hmj;rw[e,hdj,List.cons.injEq] at p4;exact p4.2
   have hd2:(m.set i l[j]).drop (j+1)=l.drop (j+1):=by rw[List.drop_set_of_lt (by omega),hd]
   have go2:∀(i':Nat) (m':List α) (J:XH) (fr:XFr),i'<j+1→m'.length=l.length→m'.take i'=(l.take (j+1)).filter (fun x=> !q x)→m'.drop (j+1)=l.drop (j+1)→fr=[(0,some (.s (.sl k w 0 l.length))),(1,some (.s c)),(5,some (fi ((i':Nat):Int))),(6,some (fi ((j+1:Nat):Int)))]→N fr (g.set k (.own w t z (m'.flatMap enc++junk))++J):=fun i' m' J fr h1 h2 h3 h4 h5=>by
    subst h5;have e:i0+1+(r+1)=j+1:=by omega
    rw[e] at hN;refine hN (i',m') _ _ ⟨h1,h2,h3,h4⟩ ⟨rfl,⟨J,rfl⟩,by simp,?_,?_⟩
    ·simpa using hlt
    ·intro x o hx e;by_cases hxk:k=x
     ·subst hxk;rw[gk] at e;obtain rfl:=zuK e;exact .inr (by simp[lvO,zQ (fun a=>hlv a _),hj])
     ·rw[zH hxk] at e;exact .inl (by rw[zH hxk];exact e)
   have ez:setX (zs.map .v) 0 (enc l[j])=enc l[j]:=ZV (by rw[he,zvc,hzs]);have el:(enc l[j]).length=z:=he _;have et:(enc l[j]).take z=enc l[j]:=by rw[←el,zvd]
   generalize hcs:m.flatMap enc++junk=cs at *;have b6:¬cs=[]:=fun e=>b4 (by rw[e];rfl);have hil:i<l.length:=by omega
   have G1:=gk (.own w t z cs);have G2:g.length≤(g.set k (.own w t z cs)).length:=by simp
   have G3:k<(g.set k (.own w t z cs)).length:=by simpa using lk
   have G4:∀X,(g.set k (.own w t z cs)).set k X=g.set k X:=fun X=>by simp
   generalize hG:g.set k (.own w t z cs)=G at *;simp[delL,hjl,b1,b2,G1,G2,G3,hzs,rep,hz,ez,el,et,hnl,-List.all_eq_true];refine go _ _ ⟨_,rfl⟩ _ ?_;simp;refine zc (fun hq=> ?_) (fun hq=> ?_)
   ·simp[wj];have:=fun J=>go2 i m J _ (by omega) p2 (step1 hq) hd rfl;rw[hcs,hG] at this;exact this _
   ·simp[G1,G2,G3,G4,hz,el,et,hil,b3,b5,b6,wi,wj];exact go2 (i+1) (m.set i l[j]) _ _ (by omega) (by simpa using p2) (step2 hq) hd2 (by simp)
  ·rintro⟨i,m⟩ ⟨p1,p2,p3,p4⟩;have hj2:i0+1+(l.length-(i0+1))=l.length:=by omega
   simp only[hj2] at p1 p2 p3 p4⊢;rw[zvd] at p3;have hi:(l.filter fun x=> !q x).length=i:=by rw[←p3,zu6];omega
   have b4:(m.flatMap enc++junk).length≠0:=by rw[cl m p2];have:=Nat.mul_pos (show 0<l.length by omega) (zxx hz);omega
   have b5:=zjb he (m:=m) (i:=i) (by omega) ((rep (m.length-i) zs).map .v) junk (by rw[zvc,zk5 hzs]);have b6:(m.flatMap enc++junk).length=l.length*z+junk.length:=cl m p2;have b7:(i+(l.length-i))*z=l.length*z:=by congr 1;omega
   rw[p2,p3] at b5;have b9:¬(l.length*z=0∧junk=[]):=fun e=>b4 (by rw[b6,e.1,e.2];rfl);generalize hcs:m.flatMap enc++junk=cs at *;have b8:¬cs=[]:=fun e=>b4 (by rw[e];rfl);obtain⟨cs2,hcs2⟩:∃cs2,cs2=(l.filter fun x=> !q x).flatMap enc++((rep (l.length-i) zs).map XV.v++junk):=⟨_,rfl⟩
   rw[←hcs2] at b5;have b10:∀m,zr m ((rep (l.length-i) zs).map .v):=fun m=>zn1;have b11:¬setX cs (i*z) ((rep (l.length-i) zs).map .v)=[]:=fun e=>b8 (zv3 (by rw[←za5 _ cs (i*z),e];rfl));rw[b5] at b11;simp[rep] at b5;simp[delL,gk,lk,show i≤l.length by omega,hzs,b5,b6,b7,b8,b9,b11,rep,hnl,-List.all_eq_true];refine Gh.here (hΨ _ _ ⟨_,fun m=> ?_,by rw[hi],by rw[hcs2]⟩);exact qf.2 ⟨b10 m,hj m⟩
def QY{α:Type}(e:α→α→Bool):List α→List α→Bool
 |[],[]=>true
 |a::l,b::m=>e a b&&QY e l m
 |_,_=>false
theorem zfn{α:Type}{e:α→α→Bool}:∀{a b:List α},a.length≠b.length→QY e a b=false
 |[],[],h=>(h rfl).elim
 |[],_::_,_=>rfl
 |_::_,[],_=>rfl
 |a::l,b::m,h=>by simp only[QY,zfn (a:=l) (b:=m) (by simpa using h),Bool.and_false]
theorem zjV{α:Type}{e:α→α→Bool}{a b:List α}{k:Nat}(ha:k<a.length)(hb:k<b.length):QY e (a.drop k) (b.drop k)=(e a[k] b[k]&&QY e (a.drop (k+1)) (b.drop (k+1))):=by rw[zvt ha,zvt hb];rfl
section
variable {α:Type} {enc:α→List XV} {e:α→α→Bool} {t z f:Nat} {o:List (Nat×Nat)} {g:XH} {u v:XV} {a b:List α}
end
section
variable {α:Type} {c:α→SV} {e:α→α→Bool} {t f:Nat} {g:XH} {u v:XV} {a b:List α}
end
def eqlL(t z:Nat)(o:List (Nat×Nat)):EC:=(.seq (.ops [bb 14 .lss 13 12] [0,1,12,13,14]) (.seq (.cond (.t 14) .skip (.exit 0 [])) (.seq (.block 1 (.seq (.ops [mv 15 13,mv 5 15] [0,1,5,12,13]) (.seq (.draw [mv 16 0,mv 17 5,ia 18 t z 16 17,ln 19 z 18,mv 20 1,mv 21 5,ia 22 t z 20 21,ln 23 z 22,gG 24 (.eqs true o (.t 19) (.t 23))] [] [0,1,12,13,24]) (.cond (.t 24) (.seq (.ops [mb 4 false] [4]) (.ret [4])) .skip)))) (.ops [bi 25 .add 13 1,mv 13 25] [0,1,12,13]))))
def eqlE(t z:Nat)(o:List (Nat×Nat)):EF:=⟨26,(.seq (.ops [mb 4 false] [0,1]) (.seq (.seq (.ops [mv 6 0,lE 7 6,mv 8 1,lE 9 8,bb 10 .neq 7 9] [0,1,10]) (.cond (.t 10) (.seq (.ops [mb 4 false] [4]) (.ret [4])) .skip)) (.seq (.seq (.ops [mv 11 0,lE 12 11,mi 13 0] [0,1,12,13]) (.block 0 (.loop [0,1,12,13] (eqlL t z o)))) (.seq (.ops [mb 4 true] [4]) (.ret [4]))))),[.tmp 4]⟩
section
variable {α:Type} {enc:α→List XV} {e:α→α→Bool} {t z f:Nat} {o:List (Nat×Nat)} {g:XH} {u v:XV} {a b:List α}
theorem ztf(hf:C f=some (eqlE t z o))(he:∀a,(enc a).length=z)(hz:z≠0)(hq:∀x y,jS ((enc x).map unV) ((enc y).map unV) o=some (e x y))(ra:RdX g t z enc u a)(rb:RdX g t z enc v b)(hl:a.length<1000000):
 Cl C (fun _=>False) f [.s u,.s v] g fun r g'=>r=fb (QY e a b)∧g'=g:=by
 refine Cl.post fun Ψ hΨ=> ?_;refine Cl.intro hf (zuJ rfl) ?_;simp[eqlE,ra.len,rb.len];refine zc (fun hc=> ?_) (fun hc=> ?_)
 ·simp at hc⊢;exact Gh.here (hΨ _ _ ⟨by rw[zfn (by omega)],rfl⟩)
 ·simp at hc;have hab:a.length=b.length:=by omega
  simp[ra.len];refine Lp.gen (keep:=[0,1,12,13]) a.length (fun k (_:Unit)=>[(0,some (.s u)),(1,some (.s v)),(12,some (fi (a.length:Int))),(13,some (fi (k:Int)))]) (fun _ _=>g) (fun k _=>QY e (a.drop k) (b.drop k)=QY e a b) () (by decide) (fun _ _=>rfl) rfl ?_ ?_
  ·intro k hk _ hi hlt N hN;obtain⟨p,cs,o1,b1,b2,b3,b4,_⟩:=ra.at he hz hk;obtain⟨p',cs',o2,d1,d2,d3,d4,_⟩:=rb.at he hz (hab▸hk);rw[zjV hk (hab▸hk)] at hi;have hn:=yB hk (by omega);simp[eqlL,hk,b1,b2,b3,b4,d1,d2,d3,d4,hz,hq,ra.len,-List.map_map];refine zc (fun hx=> ?_) (fun hx=> ?_)
   ·rw[hx,zxK] at hi;simp[hn];exact qG () hN hi (by simp) (by simpa using hlt)
   ·rw[hx,Bool.false_and] at hi;simp;exact Gh.here (hΨ _ _ ⟨by rw[←hi],rfl⟩)
  ·intro _ hi;rw[zwP (zuQ _),zwP (by omega)] at hi;simp[eqlL,ra.len];exact Gh.here (hΨ _ _ ⟨by rw[←hi];rfl,rfl⟩)
end
def z1(b:Bu):List XV:=[xi b.c,xi b.y,xi b.n]
theorem zO(b:Bu):(z1 b).length=3:=rfl
theorem zaB(b:Bu)(m:Nat):zr m (z1 b):=by simp[z1]
@[simp] theorem JS(m:Nat)(l:List Bu):zr m (l.flatMap z1):=zQ (fun a=>zaB a m) l
def RegQ(g:XH)(i:Nat)(l:List Bu):Prop:=∃v,g[i]? =some (.own 0 263 1 [v])∧RdX g 261 3 z1 v l
theorem keyBP(x:Bu)(c y:Int){g:XH}{a b:Nat}(ha:g[a]? =some (.own 0 3 1 [xi c]))(hb:g[b]? =some (.own 0 3 1 [xi y])):Cl C (fun _=>False) 312 [.agg (z1 x),.s (.ptr a 0 0),.s (.ptr b 0 0)] g fun u g'=>u=fb (jH c y x)∧g'=g:=by
 have la:=zd ha;have lb:=zd hb;refine Cl.ip rfl (zuJ rfl) fun Ψ hΨ=> ?_;simp[z1,ha,hb,la,lb]
 repeat' first|(refine zc (fun hc=> ?_) (fun hc=> ?_)<;>try simp[z1,ha,hb,la,lb])
 all_goals(refine Gh.pure (.s (.lt (by simp))) (hΨ _ _ ⟨?_,rfl⟩);simp at *;simp[jH, *])
theorem zsz{g:XH}{i:Nat}{l:List Bu}(h:RegQ g i l)(hl:l.length≤1000)(c y:Int):Cl C (fun _=>False) 268 [.s (.ptr i 0 0),fi c,fi y] g fun u g'=>u=fi (ym (jH c y) 0 l)∧g'=g:=by obtain⟨v,h1,h2⟩:=h;have li:=zd h1;refine Cl.ip rfl (zuJ rfl) fun Ψ hΨ=> ?_;simp[h1,li];refine zb.go0 (Ys (f:=287) rfl zO (by decide) h2.app (by omega) (.inr ⟨g.length+2,312,[],[.s (.ptr g.length 0 0),.s (.ptr (g.length+1) 0 0)],rfl,by simp,fun x _=>keyBP x c y (by simp) (by simp)⟩)) ?_;simp;exact Gh.pure (.s (.lt (by simp))) (hΨ _ _ ⟨rfl,rfl⟩)
theorem zeL(c y:Int):∀(l:List Bu) (k:Nat),(ym (jH c y) k l= -1∧getD l c y=0∧l.any (jH c y)=false)∨∃i,ym (jH c y) k l=((k+i:Nat):Int)∧∃h:i<l.length,getD l c y=l[i].n
 |[],k=> .inl ⟨rfl,rfl,rfl⟩
 |x::l,k=>by
  unfold ym;cases hx:jH c y x with
  |true=>exact .inr ⟨0,rfl,zx9 _,by simp[getD,hx]⟩
  |false=>
   have e:getD (x::l) c y=getD l c y:=by simp[getD,hx]
   rcases zeL c y l (k+1) with⟨e1,e2,e3⟩|⟨i,e1,e2,e3⟩
   ·exact .inl ⟨by simp[e1],by rw[e,e2],by simp[hx,e3]⟩
   ·exact .inr ⟨i+1,by simp[e1];omega,by simpa using e2,by rw[e,e3];rfl⟩
def Yp(g:XH)(i:Nat)(l:List Bu):Prop:=g[i]? =some (.own 0 263 1 [.lst 261 3 l.length (l.flatMap z1)])
theorem Yp.q{g:XH}{i:Nat}{l:List Bu}(h:Yp g i l):RegQ g i l:=⟨_,h,RdX.lst g l⟩
theorem zjJ{g:XH}{i:Nat}{l:List Bu}(h:Yp g i l)(hl:l.length≤1000)(c y:Int):Cl C (fun _=>False) 210 [.s (.ptr i 0 0),fi c,fi y] g fun u g'=>u=fi (getD l c y)∧g'=g:=by
 have h1:g[i]? =_:=h;have li:=zd h1;refine Cl.ip rfl (zuJ rfl) fun Ψ hΨ=> ?_;simp;refine zb.go0 (zsz h.q hl c y) ?_;rcases zeL c y l 0 with⟨e1,e2,_⟩|⟨k,e1,hk,e3⟩
 ·simp[e1];exact Gh.here (hΨ _ _ ⟨by rw[e2],rfl⟩)
 ·rw[zvv] at e1;obtain⟨_,_,a3⟩:=atX zO hk;have a4:=a3 2 (by decide);have e0:¬(k:Int)<0:=by omega
  simp[e1,e0,h1,li,hk,a4,z1];exact Gh.here (hΨ _ _ ⟨by rw[e3],rfl⟩)
theorem zt4{g:XH}{i:Nat}{l:List Bu}(h:Yp g i l)(hl:l.length≤1000)(hm:∀b∈l,za b.n=true):Cl C (fun _=>False) 211 [.s (.ptr i 0 0)] g fun u g'=>u=fi (yH l)∧g'=g:=by
 have h1:g[i]? =_:=h;have li:=zd h1;refine Cl.ip rfl (zuJ rfl) fun Ψ hΨ=> ?_;simp[h1,li];refine Lp.fold (keep:=[3,9,10,11]) l (fun k s=>[(3,some (fi s)),(9,some (.s (.lst 261 3 l.length (l.flatMap z1)))),(10,some (fi l.length)),(11,some (fi k))]) (fun _ _=>g) (fun s b=>s+b.n) 0 (by decide) (fun _ _=>rfl) ?_ ?_
 ·intro k hk s hs hlt N hN;obtain⟨a1,a2,_⟩:=atX zO hk;have w:IntKind.i64.wrap (s+l[k].n)=s+l[k].n:=by
   rw[QB] at hs;have:=zbL Bu.n 100000000000 (by omega) (l.take k) fun b hb=>by simpa[za] using hm b (zvW hb)
   have h2:za l[k].n=true:=hm _ (zvi hk);simp[za] at h2;rw[zu6] at this;exact ze (by omega) (by omega)
  generalize l[k]=x at *;simp[l211_0,hk,a1,a2,z1,w,yB hk (by omega)];exact Jg hN (by simp) (by simp)
 ·intro s hs;simp[l211_0];exact Gh.here (hΨ _ _ ⟨by rw[hs,QB];simp[yH],rfl⟩)
theorem zkf(c:Int)(y:Int):Pure C 209 [fi c,fi y] (fb (yK c y)):=by
 refine Pure.intro0 (e:=e209) rfl (zuJ rfl) (by simp) fun g Ψ h0 hJ=> ?_;simp
 repeat' first|(refine zc (fun hc=> ?_) (fun hc=> ?_)<;>try simp)
 all_goals(simp at *;exact q6 h0 (by simp[yK,yF, *]<;>omega))
def jV(c y n:Int):List Bu→List Bu
 |[]=>if n≠0 then[⟨c,y,n⟩] else[]
 |x::l=>if jH c y x then⟨x.c,x.y,n⟩::l else x::jV c y n l
theorem zd1(c y n:Int):∀(l:List Bu),(jV c y n l).length≤l.length+1
 |[]=>by unfold jV;split<;>simp
 |x::l=>by unfold jV;split<;>simp[zd1 c y n l]
theorem zeM(c y n:Int):∀(l:List Bu) (k:Nat),(ym (jH c y) k l= -1∧jV c y n l=l++(if n≠0 then[⟨c,y,n⟩] else[]))∨∃i,ym (jH c y) k l=((k+i:Nat):Int)∧∃h:i<l.length,jV c y n l=l.set i ⟨l[i].c,l[i].y,n⟩
 |[],k=> .inl ⟨rfl,by simp[jV]⟩
 |x::l,k=>by
  unfold ym jV;cases hx:jH c y x with
  |true=>exact .inr ⟨0,rfl,zx9 _,by simp⟩
  |false=>
   rcases zeM c y n l (k+1) with⟨e1,e2⟩|⟨i,e1,e2,e3⟩
   ·exact .inl ⟨by simp[e1],by simp[e2]⟩
   ·exact .inr ⟨i+1,by simp[e1];omega,by simpa using e2,by simp[e3]⟩
def jE(l:List Bu)(c y n:Int):List Bu:=(jV c y n l).filter fun b=> !(b.n==0)
theorem zeroP(x:Bu)(g:XH):Cl C (fun _=>False) 270 [.agg (z1 x)] g fun u g'=>u=fb (x.n==0)∧g'=g:=by refine Cl.ip rfl (zuJ rfl) fun Ψ hΨ=> ?_;simp[z1];exact Gh.pure (.s (.lt (by simp))) (hΨ _ _ ⟨by simp,rfl⟩)
section
attribute [-simp] zbh
structure Upd(S:Nat→Prop)(g g':XH):Prop where
 len:g'.length=g.length
 same:∀j:Nat,¬S j→g'[j]? =g[j]?
 old:∀(j:Nat) (o:XO),g'[j]? =some o→g[j]? =some o∨lvO g.length o
theorem Upd.refl{S:Nat→Prop}{g:XH}:Upd S g g:=⟨rfl,fun _ _=>rfl,fun _ _ h=> .inl h⟩
theorem Upd.set{S:Nat→Prop}{g g':XH}(h:Upd S g g'){i:Nat}(hi:S i){o:XO}(ho:lvO g.length o):Upd S g (g'.set i o):=by
 refine⟨by rw[zvw,h.len],fun j hj=> ?_,fun j p e=> ?_⟩
 ·rw[zuU (by rintro rfl;exact hj hi)];exact h.same j hj
 ·by_cases hij:i=j
  ·subst hij;have:=(zuN.1 e).1;rw[zvw] at this;rw[zu2 this] at e;exact .inr (zuK e▸ho)
  ·rw[zuU hij] at e;exact h.old j p e
theorem Upd.trans{S:Nat→Prop}{g g' g'':XH}(h:Upd S g g')(k:Upd S g' g''):Upd S g g'':=
 ⟨k.len.trans h.len,fun j hj=>(k.same j hj).trans (h.same j hj),fun j o e=>(k.old j o e).elim (fun e=>h.old j o e) (fun l=> .inr (h.len▸l))⟩
theorem qX{W S:Nat→Prop}{g G J:XH}{Ψ:XF→XH→Prop}{u:XF}(h:Upd S g G)(hu:lvF g.length u)(hp:Ψ u G):Gh W g Ψ u (G++J):=
 Gh.fz ⟨h.len,h.len,fun i o e=> .inl ⟨e,h.old i o e⟩,rfl,fun _ _ _ e=>by simp at e,fun _ _ e=>by simp at e⟩ (.lt hu) hp
theorem RdX.junk{α:Type}{enc:α→List XV}{t z:Nat}(he:∀a,(enc a).length=z){g:XH}{i w:Nat}{l:List α}{junk:List XV}(h:g[i]? =some (.own w t z (l.flatMap enc++junk))):RdX g t z enc (.sl i w 0 l.length) l:=by
 refine .inr (.inr ⟨i,w,0,_,rfl,(by simp only[zN,h,if_true];rfl),?_,?_⟩)
 ·rw[zuR,zf he,zvv];exact zwS _ _
 ·rw[zv4,zve,←zf he,zwc];rfl
def zlq(g:XH)(i k:Nat)(l:List Bu):Prop:=∃w junk,(∀m,zr m junk)∧g[i]? =some (.own 0 263 1 [.sl k w 0 l.length])∧g[k]? =some (.own w 261 3 (l.flatMap z1++junk))
theorem zlq.q{g:XH}{i k:Nat}{l:List Bu}(h:zlq g i k l):RegQ g i l:=by obtain⟨w,junk,_,h1,h2⟩:=h;exact⟨_,h1,RdX.junk zO h2⟩
theorem znF(l:List Bu)(k:Nat)(hk:k<l.length)(n:Int)(junk:List XV):(l.flatMap z1++junk).set (k*3+2) (xi n)=(l.set k ⟨l[k].c,l[k].y,n⟩).flatMap z1++junk:=by
 rw[←zbo zO hk];have e1:l=l.take k++l[k]::l.drop (k+1):=by rw[←zvt hk,zvn]
 have l1:((l.take k).flatMap z1).length=k*3:=by rw[zf zO,zu6,zvD (by omega)]
 generalize l[k]=x at *;rw[e1];simp only[zvq,zvS,zu9];generalize(l.take k).flatMap z1=P at *;generalize(l.drop (k+1)).flatMap z1=Q at *;rw[←l1,ZW (z1 ⟨x.c,x.y,n⟩) (z1 x) (Q++junk) P rfl,zvX _ _ (by omega),show P.length+2-P.length=2 by omega];rfl
theorem zjM{g:XH}{i k:Nat}{l:List Bu}(h:zlq g i k l)(hne:i≠k)(hl:l.length≤1000)(c y n:Int):Cl C (fun x=>x=i∨x=k) 212 [.s (.ptr i 0 0),fi c,fi y,fi n] g fun u g'=>u= .tup []∧zlq g' i k (jE l c y n)∧Upd (fun x=>x=i∨x=k) g g':=by
 have hq:=h.q;obtain⟨w,junk,hj,hi,hk⟩:=h;have li:=zd hi;have lk:=zd hk;obtain⟨cs,hcs⟩:∃cs,cs=l.flatMap z1++junk:=⟨_,rfl⟩
 have hlen:cs.length=l.length*3+junk.length:=by rw[hcs,zuR,zf zO]
 have hcut:zbh cs 0 l.length 3=l.flatMap z1:=by rw[zax,hcs,zv4,zve,←zf zO,zwc];rfl
 rw[←hcs] at hk;refine Cl.ip rfl (zuJ rfl) fun Ψ hΨ=> ?_;simp;refine zb.go0 (zsz hq hl c y) ?_;simp;have fin:∀(G J:XH) (l1:List Bu) (w1:Nat) (junk1:List XV),l1=jV c y n l→l1.length≤1001→(∀m,zr m junk1)→Upd (fun x=>x=i∨x=k) g G→i<G.length→G[i]? =some (.own 0 263 1 [.sl k w1 0 l1.length])→G[k]? =some (.own w1 261 3 (l1.flatMap z1++junk1))→∀K:XF→XH→Prop,(∀(w2:Nat) (junk2:List XV) (J G':XH),(∀m,zr m junk2)→G'=G.set k (.own w1 261 3 ((jE l c y n).flatMap z1++junk2))→K (.s (.sl k w1 0 (jE l c y n).length)) (G'++J))→xCX C (fun x=>g.length≤x∨(x=i∨x=k)) 269 [.s (.sl k w1 0 l1.length),.s (.v (.fn 270))] (G++J) K .mk:=by intro G J l1 w1 junk1 e1 hl1 hj1 hU liG hiG hkG K hK;have lkG:=zd hkG;refine zb.go (zcv (fi':=287) (q:=fun b=>b.n==0) rfl rfl (by decide) rfl rfl zO (g:=G++J) (k:=k) (w:=w1) (junk:=junk1) (by rw[zq lkG];exact hkG) (by omega) zaB hj1 (fun cells J=> .inl ⟨_,rfl,fun x _=>zeroP x _⟩)) (fun x hx e=> .inr (.inr e)) ?_;rintro u g' ⟨junk',hj',rfl,rfl⟩;rw[zk9 lkG];subst e1;exact hK w1 junk' J _ hj' rfl
 have pl:=zd1 c y n l;have lv:∀m,zr m (cs):=fun m=>by rw[hcs,qf];exact⟨JS m l,hj m⟩
 have done:∀(G:XH) (l1:List Bu) (w1:Nat) (junk1 junk2:List XV) (J G':XH),l1=jV c y n l→(∀m,zr m junk2)→Upd (fun x=>x=i∨x=k) g G→G'=G.set k (.own w1 261 3 ((jE l c y n).flatMap z1++junk2))→Gh (fun x=>x=i∨x=k) g Ψ (.tup []) (G'.set i (.own 0 263 1 [.sl k w1 0 (jE l c y n).length])++J):=by
  rintro G l1 w1 junk1 junk2 J G' _ h2 hU rfl;have u:Upd (fun x=>x=i∨x=k) g ((G.set k (.own w1 261 3 ((jE l c y n).flatMap z1++junk2))).set i (.own 0 263 1 [.sl k w1 0 (jE l c y n).length])):=(hU.set (.inr rfl) (by simp[lvO,h2])).set (.inl rfl) (by simp[lvO,lk]);have hl:=hU.len;refine qX u (by simp) (hΨ _ _ ⟨rfl,⟨w1,junk2,h2,?_,?_⟩,u⟩)
  ·exact yn (by rw[zvw];omega)
  ·rw[zH hne];exact yn (by omega)
 rcases zeM c y n l 0 with⟨e1,e2⟩|⟨k0,e1,hk0,e3⟩
 ·simp[e1];refine zc (fun hc=> ?_) (fun hc=> ?_)
  ·simp at hc;rw[zuT hc] at e2;simp[hi,hk,li,lk,hne,hne.symm,show l.length*3≤cs.length by omega,hcut,show(l.length+1)*24≤140737488355328 by omega,show∀a b d:XV,zbh [a,b,d] 0 1 3=[a,b,d] from fun _ _ _=>rfl];have u:Upd (fun x=>x=i∨x=k) g ((g.set k (.own (w+1) 261 3 (l.flatMap z1++[xi c,xi y,xi n]))).set i (.own 0 263 1 [.sl k (w+1) 0 (l.length+1)])):=(Upd.refl.set (.inr rfl) (by simp[lvO])).set (.inl rfl) (by simp[lvO,lk]);have:=fin _ [.own 0 261 3 [xi c,xi y,xi n]] (l++[⟨c,y,n⟩]) (w+1) [] e2.symm (by simp;omega) (fun m=>by simp[zr]) u (by simpa using li) (by simp[li]) (by simp[hne,hne.symm,lk,z1]);simp only[zuR,zuW] at this;refine this _ ?_;rintro w2 junk2 J G' h2 rfl;simp[li,lk,hi,hne.symm];simpa using done _ _ _ [] junk2 J _ e2.symm h2 u rfl
  ·simp at hc;rw[zuV (by simpa using hc),zvl] at e2;simp[hi,hk,li,lk,hne,hne.symm];have:=fin g [] l w junk e2.symm (by omega) hj Upd.refl li hi (by rw[hk,hcs]);rw[zvl] at this;refine this _ ?_;rintro w2 junk2 J G' h2 rfl;simp[li,lk,hi,hne.symm];simpa using done _ _ _ [] junk2 J _ e2.symm h2 Upd.refl rfl
 ·rw[zvv] at e1;have hcn:¬cs=[]:=fun e=>by rw[e] at hlen;simp at hlen;omega
  have hset:cs.set (k0*3+2) (xi n)=(jV c y n l).flatMap z1++junk:=by rw[hcs,znF l k0 hk0,e3]
  have hpl:(jV c y n l).length=l.length:=by rw[e3,zvw]
  simp[e1,hi,hk,li,lk,hk0,hne,hne.symm,hcn,hset,show k0*3+2+1≤cs.length by omega];have u:Upd (fun x=>x=i∨x=k) g (g.set k (.own w 261 3 ((jV c y n l).flatMap z1++junk))):=Upd.refl.set (.inr rfl) (by simp[lvO,hj]);have:=fin _ [] (jV c y n l) w junk rfl (by omega) hj u (by simpa using li) (by simp[hne.symm,hi,hpl]) (by simp[lk]);rw[zvl,hpl] at this;refine this _ ?_;rintro w2 junk2 J G' h2 rfl;simp[li,lk,hi,hne.symm];have:=done _ _ w [] junk2 J _ rfl h2 u rfl;simp at this;exact this
end
theorem FzV.junk{n0:Nat}{J:XH}{K:List (Option Nat)}{O:XH}{i w t z n:Nat}{cs junk:List XV}(h1:n0≤i)(hk:zjy K (i-n0))(h2:J[i-n0]? =some (.own w t z (cs++junk)))(h4:n*z=cs.length)(h5:zr n0 cs)(h6:zr n0 junk):FzV n0 J K O (.sl i w 0 n) (.lst t z n cs):=by
 have:=FzV.sl (o:=0) (n:=n) h1 hk h2 (by rw[zuR,zvv,h4];exact zwS _ _) (FzVs.lts (qf.2 ⟨h5,h6⟩):FzVs n0 J K O _ _)
 rwa [zv4,zve,h4,zwc rfl] at this
theorem zd4{g:XH}{i:Nat}{l:List Bu}(h:Yp g i l)(hl:l.length≤1000):Cl C (fun _=>False) 97 [.s (.ptr i 0 0)] g fun u g'=>u= .s (.ptr (g.length+1) 0 0)∧∃w,g'=g++[.own w 261 3 (l.flatMap z1),.own 0 263 1 [.sl g.length w 0 l.length]]:=by have h1:g[i]? =_:=h;have li:=zd h1;refine Cl.ip rfl (zuJ rfl) fun Ψ hΨ=> ?_;simp[h1,li];refine zb.go (Y2 (enc:=z1) (z:=3) (l:=l) rfl rfl rfl zO (by decide) (RdX.lst g l) (fun a=>zaB a _) (by omega)) (fun _ _ h=>h.elim) ?_;rintro u g' ⟨w,rfl,rfl⟩;simp;exact Gh.here (hΨ _ _ ⟨rfl,w,rfl⟩)
theorem zk3{g:XH}{i j k w n:Nat}{cs:List XV}(hi:∃v,g[i]? =some (.own 0 263 1 [v]))(hj:g[j]? =some (.own 0 263 1 [.sl k w 0 n]))(hk:g[k]? =some (.own w 261 3 cs)):Cl C (fun x=>x=i) 213 [.s (.ptr i 0 0),.s (.ptr j 0 0)] g fun u g'=>if 12<n then u=fi 5∧g'=g else u=fi 0∧g'=g.set i (.own 0 263 1 [.sl k w 0 n]):=by
 obtain⟨v,hi⟩:=hi;have li:=zd hi;have lj:=zd hj;have lk:=zd hk;refine Cl.ip rfl (zuJ rfl) fun Ψ hΨ=> ?_;simp[hj,hk,lj,lk];refine zc (fun hc=> ?_) (fun hc=> ?_)
 ·simp at hc⊢;exact Gh.here (hΨ _ _ (by rw[zuT (by omega)];exact⟨rfl,rfl⟩))
 ·simp at hc;simp[hi,hj,li,lj];exact Gh.here (hΨ _ _ (by rw[zuV (by omega)];exact⟨rfl,rfl⟩))
def Q2(l:List Bu):Prop:=l.length≤12∧(∀b∈l,za b.n=true)∧za (yH l)=true
theorem Q2.get{l:List Bu}(h:Q2 l)(c y:Int):za (getD l c y)=true:=by
 unfold getD;cases e:l.find? (jH c y) with
 |none=>rfl
 |some b=>exact h.2.1 b (zv0 e)
def jv(l:List Bu)(c y n:Int):Int×List Bu:=
 if¬yK c y=true∨¬za n=true then(1,l)
 else if¬za (getD l c y+n)=true∨¬za (yH l+n)=true then(6,l)
 else if 12<(jE l c y (getD l c y+n)).length then(5,l) else(0,jE l c y (getD l c y+n))
theorem Js{a b:Int}(ha:za a=true)(hb:za b=true):IntKind.i64.wrap (a+b)=a+b:=by simp[za] at ha hb;exact ze (by omega) (by omega)
theorem zri{g:XH}{i:Nat}{l:List Bu}(h:Yp g i l)(hI:Q2 l)(c y n:Int):Cl C (fun x=>x=i) 143 [.s (.ptr i 0 0),fi c,fi y,fi n] g fun u g'=>u=fi (jv l c y n).1∧Yp g' i (jv l c y n).2∧Upd (fun x=>x=i) g g':=by
 have h1:g[i]? =_:=h;have li:=zd h1;have hl:=hI.1;refine Cl.ip rfl (zuJ rfl) fun Ψ hΨ=> ?_;have no:∀n' J,jv l c y n=(n',l)→Gh (fun x=>x=i) g Ψ (fi n') (g++J):=fun n' J e=>qX (S:=fun x=>x=i) Upd.refl (by simp) (hΨ _ _ ⟨by rw[e],by rw[e];exact h,Upd.refl⟩);have no0:∀n',jv l c y n=(n',l)→Gh (fun x=>x=i) g Ψ (fi n') g:=fun n' e=>by have:=no n' [] e;rwa [zvl] at this
 simp;refine zb.pure (zkf ..) ?_;simp;refine zc (fun hb=> ?_) (fun hb=> ?_)
 rotate_left
 ·simp;exact no0 1 (by unfold jv;rw[zuT (.inl (by simp[hb]))])
 simp;refine zb.pure (z8 ..) ?_;simp;refine zc (fun hm=> ?_) (fun hm=> ?_)
 rotate_left
 ·simp;exact no0 1 (by unfold jv;rw[zuT (.inr (by simp[hm]))])
 have hgm:=hI.get c y;simp;refine zb.go0 (zjJ h (by omega) c y) ?_;simp[Js hgm hm];refine zb.pure (z8 ..) ?_;simp;refine zc (fun hs=> ?_) (fun hs=> ?_)
 rotate_left
 ·simp;exact no0 6 (by unfold jv;rw[zuV (by simp[hb,hm]),zuT (.inl (by simp[hs]))])
 simp;refine zb.go0 (zt4 h (by omega) hI.2.1) ?_;simp[Js hI.2.2 hm];refine zb.pure (z8 ..) ?_;simp;refine zc (fun ht=> ?_) (fun ht=> ?_)
 rotate_left
 ·simp;exact no0 6 (by unfold jv;rw[zuV (by simp[hb,hm]),zuT (.inr (by simp[ht]))])
 simp;refine zb.go (zd4 h (by omega)) (fun _ _ h=>h.elim) ?_;rintro u g' ⟨rfl,w,rfl⟩;simp;have hj:zlq (g++[.own w 261 3 (l.flatMap z1),.own 0 263 1 [.sl g.length w 0 l.length]]) (g.length+1) g.length l:=⟨w,[],fun m=>by simp[zr],by simp,by simp⟩
 refine zb.go (zjM hj (by omega) (by omega) c y (getD l c y+n)) (fun x hx e=> .inl (by rcases e with rfl|rfl<;>omega)) ?_;rintro u g' ⟨rfl,⟨w2,junk,hjk,q1,q2⟩,hU⟩;have e0:jv l c y n=if 12<(jE l c y (getD l c y+n)).length then(5,l) else(0,jE l c y (getD l c y+n)):=by unfold jv;rw[zuV (by simp[hb,hm]),zuV (by simp[hs,ht])]
 generalize jE l c y (getD l c y+n)=l' at *;have hgi:g'[i]? =g[i]? :=by rw[hU.same i (by omega),zq li]
 simp;refine zb.go (zk3 ⟨_,hgi.trans h1⟩ q1 q2) (fun x hx e=> .inr e) ?_;have hpre:∃J,g'=g++J∧J[0]? =some (.own w2 261 3 (l'.flatMap z1++junk)):=by
  refine⟨g'.drop g.length,?_,?_⟩
  ·have:g'.take g.length=g:=by
    apply zv5;intro j;by_cases hj:j<g.length
    ·rw[zvo,zuT hj,hU.same j (by omega),zq hj]
    ·rw[zvo,zuV hj,zvU (by omega)]
   conv=>lhs;rw[←zvn g.length g',this]
  ·rw[zvR];exact q2
 obtain⟨J,rfl,hJ⟩:=hpre;rintro u g2 hu;by_cases h12:12<l'.length
 ·rw[zuT h12] at hu e0;obtain⟨rfl,rfl⟩:=hu;simp;exact no 5 J e0
 ·rw[zuV h12] at hu e0;obtain⟨rfl,rfl⟩:=hu;simp[li];refine Gh.fz ((FzH.refl (W:=fun x=>x=i) (J:=J)).put i 0 263 1 rfl (.cons (FzV.junk (cs:=l'.flatMap z1) (junk:=junk) (t:=261) (z:=3) (zuQ _) (fun j=>by simp) (by rw[zvN];exact hJ) (by rw[zf zO]) (JS _ _) (hjk _)) .nil)) (.s (.lt (by simp))) (hΨ _ _ ⟨by rw[e0],?_,?_⟩)
  ·rw[e0];exact yn li
  ·exact(Upd.refl (S:=fun x=>x=i)).set (i:=i) rfl (by simp[lvO])
theorem zrL{a b:Int}(ha:za a=true)(hb:za b=true):IntKind.i64.wrap (a-b)=a-b:=by simp[za] at ha hb;exact ze (by omega) (by omega)
theorem zmE{S:Nat→Prop}{g J g':XH}(h:Upd S (g++J) g')(hS:∀j,j<g.length→¬S j):∃J',g'=g++J'∧∀j,g'[g.length+j]? =J'[j]? :=by
 have e:g'=g++g'.drop g.length:=by
  have:g'.take g.length=g:=by
   apply zv5;intro j;by_cases hj:j<g.length
   ·rw[zvo,zuT hj,h.same j (hS j hj),zq hj]
   ·rw[zvo,zuV hj,zvU (by omega)]
  conv=>lhs;rw[←zvn g.length g',this]
 exact⟨_,e,fun j=>by rw[zvR]⟩
def z7(l:List Bu)(c y c2 y2 n:Int):Int×List Bu:=
 if¬yK c y=true∨¬yK c2 y2=true∨¬za n=true∨(c=c2∧y=y2) then(1,l)
 else if¬za (getD l c y-n)=true∨¬za (getD l c2 y2+n)=true then(6,l)
 else if 12<(jE (jE l c y (getD l c y-n)) c2 y2 (getD l c2 y2+n)).length then(5,l) else(0,jE (jE l c y (getD l c y-n)) c2 y2 (getD l c2 y2+n))
theorem zoJ(l:List Bu)(c y n:Int):(jE l c y n).length≤l.length+1:=by have h1:=zwd (fun b:Bu=> !(b.n==0)) (jV c y n l);have h2:=zd1 c y n l;unfold jE;omega
theorem zjL{g:XH}{i:Nat}{l:List Bu}(h:Yp g i l)(hI:Q2 l)(c y c2 y2 n:Int):Cl C (fun x=>x=i) 145 [.s (.ptr i 0 0),fi c,fi y,fi c2,fi y2,fi n] g fun u g'=>u=fi (z7 l c y c2 y2 n).1∧Yp g' i (z7 l c y c2 y2 n).2∧Upd (fun x=>x=i) g g':=by
 have h1:g[i]? =_:=h;have li:=zd h1;have hl:=hI.1;refine Cl.ip rfl (zuJ rfl) fun Ψ hΨ=> ?_;have no:∀n' J,z7 l c y c2 y2 n=(n',l)→Gh (fun x=>x=i) g Ψ (fi n') (g++J):=fun n' J e=>qX (S:=fun x=>x=i) Upd.refl (by simp) (hΨ _ _ ⟨by rw[e],by rw[e];exact h,Upd.refl⟩);have no0:∀n',z7 l c y c2 y2 n=(n',l)→Gh (fun x=>x=i) g Ψ (fi n') g:=fun n' e=>by have:=no n' [] e;rwa [zvl] at this
 simp
 repeat' first|(refine zc (fun hc=> ?_) (fun hc=> ?_)<;>try simp)|(refine zb.pure (zkf ..) ?_;try simp)|(refine zb.pure (z8 ..) ?_;try simp)
 all_goals try (exact no0 1 (by unfold z7;rw[zuT (by simp_all)]))
 all_goals
  have hm:za n=true:=by assumption
  have hcc:¬(c=c2∧y=y2):=by simp_all
  have hp:¬(¬yK c y=true∨¬yK c2 y2=true∨¬za n=true∨(c=c2∧y=y2)):=by simp_all
  have e0:z7 l c y c2 y2 n=if¬za (getD l c y-n)=true∨¬za (getD l c2 y2+n)=true then(6,l)
   else if 12<(jE (jE l c y (getD l c y-n)) c2 y2 (getD l c2 y2+n)).length then(5,l) else(0,jE (jE l c y (getD l c y-n)) c2 y2 (getD l c2 y2+n)):=by
   unfold z7;rw[zuV hp]
  refine zb.go0 (zjJ h (by omega) c y) ?_;simp[zrL (hI.get c y) hm];refine zb.go0 (zjJ h (by omega) c2 y2) ?_;simp[Js (hI.get c2 y2) hm]
  repeat' first|(refine zc (fun hc=> ?_) (fun hc=> ?_)<;>try simp)|(refine zb.pure (z8 ..) ?_;try simp)
  all_goals try (exact no0 6 (by rw[e0,zuT (by simp_all)]))
  rw[zuV (by simp_all)] at e0;refine zb.go (zd4 h (by omega)) (fun _ _ h=>h.elim) ?_;rintro u g' ⟨rfl,w,rfl⟩;simp;have hj:zlq (g++[.own w 261 3 (l.flatMap z1),.own 0 263 1 [.sl g.length w 0 l.length]]) (g.length+1) g.length l:=⟨w,[],fun m=>by simp[zr],by simp,by simp⟩
  refine zb.go (zjM hj (by omega) (by omega) c y (getD l c y-n)) (fun x hx e=> .inl (by rcases e with rfl|rfl<;>omega)) ?_;rintro u g1 ⟨rfl,hj1,hU1⟩;have l1:=zoJ l c y (getD l c y-n);simp;refine zb.go (zjM hj1 (by omega) (by omega) c2 y2 (getD l c2 y2+n)) (fun x hx e=> .inl (by rcases e with rfl|rfl<;>omega)) ?_;rintro u g' ⟨rfl,⟨w2,junk,hjk,q1,q2⟩,hU2⟩;have hU:=hU1.trans hU2;generalize jE (jE l c y (getD l c y-n)) c2 y2 (getD l c2 y2+n)=l' at *;have hgi:g'[i]? =g[i]? :=by rw[hU.same i (by omega),zq li]
  simp;refine zb.go (zk3 ⟨_,hgi.trans h1⟩ q1 q2) (fun x hx e=> .inr e) ?_;obtain⟨J,rfl,hJ'⟩:=zmE hU (by intro j hj e;omega);have hJ:=(hJ' 0).symm.trans q2;rintro u g2 hu;by_cases h12:12<l'.length
  ·rw[zuT h12] at hu e0;obtain⟨rfl,rfl⟩:=hu;simp;exact no 5 J e0
  ·rw[zuV h12] at hu e0;obtain⟨rfl,rfl⟩:=hu;simp[li];refine Gh.fz ((FzH.refl (W:=fun x=>x=i) (J:=J)).put i 0 263 1 rfl (.cons (FzV.junk (cs:=l'.flatMap z1) (junk:=junk) (t:=261) (z:=3) (zuQ _) (fun j=>by simp) (by rw[zvN];exact hJ) (by rw[zf zO]) (JS _ _) (hjk _)) .nil)) (.s (.lt (by simp))) (hΨ _ _ ⟨by rw[e0],?_,?_⟩)
   ·rw[e0];exact yn li
   ·exact(Upd.refl (S:=fun x=>x=i)).set (i:=i) rfl (by simp[lvO])
theorem zt3(g:XH):Cl C (fun _=>False) 133 [] g fun u g'=>u= .s (.ptr g.length 0 0)∧g'=g++[.own 0 263 1 [.lst 261 3 0 []]]:=by
 refine Cl.ip rfl (zuJ rfl) fun Ψ hΨ=> ?_;simp;refine Gh.keep [some 0] [.own 0 263 1 [.lst 261 3 0 []]] ⟨rfl,rfl,fun i o e=> .inl ⟨e,.inl e⟩,rfl,?_,?_⟩ (.s (.kptr (j:=0) (k:=0) rfl)) (hΨ _ _ ⟨by simp,rfl⟩)
 ·intro j j' k e e';have h1:=(zuN.1 e).1;have h2:=(zuN.1 e').1;simp at h1 h2;omega
 ·intro j o e;have h1:=(zuN.1 e).1;obtain rfl:j=0:=by simpa using h1
  simp only[zvC,zuI] at e;exact .inr ⟨0,0,_,_,_,_,rfl,rfl,e.symm,.cons .nil .nil⟩
def yL(v:Vi):List XV:=[xi v.o,xi v.e,xi v.n]
theorem zM(b:Vi):(yL b).length=3:=rfl
theorem zfX(b:Vi)(m:Nat):zr m (yL b):=by simp[yL]
@[simp] theorem JT(m:Nat)(l:List Vi):zr m (l.flatMap yL):=zQ (fun a=>zfX a m) l
def zfz(g:XH)(p:XV)(l:List Vi):Prop:=∃v,(p= .lp [v] 0∨∃i,p= .ptr i 0 0∧g[i]? =some (.own 0 295 1 [v]))∧RdX g 327 3 yL v l
theorem zgn{g:XH}{p:XV}{l:List Vi}(h:zfz g p l)(hl:l.length≤1000):Cl C (fun _=>False) 239 [.s p] g (qk g 327 3 l.length (l.flatMap yL)):=by
 obtain⟨v,hp,hr⟩:=h;refine Cl.ip rfl (zuJ rfl) fun Ψ hΨ=> ?_;have hc:=Y2 (f:=300) (y:=24) (zs:=[.int .i64 0,.int .i64 0,.int .i64 0]) rfl rfl rfl zM (by decide) hr (fun a=>zfX a _) (by omega);rcases hp with rfl|⟨i,rfl,hi⟩
 ·simp;refine zb.go hc (fun _ _ h=>h.elim) ?_;rintro u g' ⟨w,rfl,rfl⟩;simp;exact Gh.here (hΨ _ _ ⟨w,rfl,rfl⟩)
 ·have li:=zd hi;simp[hi,li];refine zb.go hc (fun _ _ h=>h.elim) ?_;rintro u g' ⟨w,rfl,rfl⟩;simp;exact Gh.here (hΨ _ _ ⟨w,rfl,rfl⟩)
theorem zhE{g:XH}{p:XV}{l:List Vi}(h:zfz g p l)(hl:l.length≤1000):Cl C (fun _=>False) 170 [.s p] g fun u g'=>u= .s (.ptr (g.length+1) 0 0)∧∃w,g'=g++[.own w 327 3 (l.flatMap yL),.own 0 295 1 [.sl g.length w 0 l.length]]:=by refine Cl.ip rfl (zuJ rfl) fun Ψ hΨ=> ?_;simp;refine zb.go (zgn h hl) (fun _ _ h=>h.elim) ?_;rintro u g' ⟨w,rfl,rfl⟩;simp;exact Gh.here (hΨ _ _ ⟨rfl,w,rfl⟩)
theorem zkF{g:XH}{p:XV}{l:List Vi}(h:zfz g p l)(hl:l.length≤1000)(hm:∀b∈l,za b.n=true):Cl C (fun _=>False) 221 [.s p] g fun u g'=>u=fi (zA l)∧g'=g:=by
 obtain⟨v,hp,hr⟩:=h;refine Cl.ip rfl (zuJ rfl) fun Ψ hΨ=> ?_;have main:∀Φ:Ex→XFr→XH→Prop,(∀s,s=zA l→Φ (.exit 0) [(3,some (fi s))] g)→Lp C (fun i=>g.length≤i∨False) [3,9,10,11] l221_0 [(3,some (fi 0)),(9,some (.s v)),(10,some (fi l.length)),(11,some (fi 0))] g Φ:=fun Φ hΦ=>by
  refine Lp.fold (keep:=[3,9,10,11]) l (fun k s=>[(3,some (fi s)),(9,some (.s v)),(10,some (fi l.length)),(11,some (fi k))]) (fun _ _=>g) (fun s b=>s+b.n) 0 (by decide) (fun _ _=>rfl) ?_ ?_
  ·intro k hk s hs hlt N hN;obtain⟨p,cs,o,b1,b2,b3,b4,_⟩:=hr.at zM (by decide) hk;have w:IntKind.i64.wrap (s+l[k].n)=s+l[k].n:=by
    rw[QB] at hs;have:=zbL Vi.n 100000000000 (by omega) (l.take k) fun b hb=>by simpa[za] using hm b (zvW hb)
    have h2:za l[k].n=true:=hm _ (zvi hk);simp[za] at h2;rw[zu6] at this;exact ze (by omega) (by omega)
   generalize l[k]=x at *;simp[l221_0,hk,b1,b2,b3,b4,yL,w,yB hk (by omega)];exact Jg hN (by simp) (by simpa using hlt)
  ·intro s hs;simp[l221_0];exact hΦ s (by rw[hs,QB];simp[zA])
 rcases hp with rfl|⟨i,rfl,hi⟩
 ·simp[hr.len];refine main _ fun s hs=> ?_;simp;exact Gh.here (hΨ _ _ ⟨by rw[hs],rfl⟩)
 ·have li:=zd hi;simp[hi,li,hr.len];refine main _ fun s hs=> ?_;simp;exact Gh.here (hΨ _ _ ⟨by rw[hs],rfl⟩)
def ziy(o e:Int):Bool:=yF o&&decide (o≤e∧e≤198)
theorem vinRP(o:Int)(e:Int):Pure C 322 [fi o,fi e] (fb (ziy o e)):=by
 refine Pure.intro0 (e:=e322) rfl (zuJ rfl) (by simp) fun g Ψ h0 hJ=> ?_;simp
 repeat' first|(refine zc (fun hc=> ?_) (fun hc=> ?_)<;>try simp)
 all_goals(simp at *;exact q6 h0 (by simp[ziy,yF, *]<;>omega))
theorem keyVP(x:Vi)(c y:Int){g:XH}{a b:Nat}(ha:g[a]? =some (.own 0 3 1 [xi c]))(hb:g[b]? =some (.own 0 3 1 [xi y])):Cl C (fun _=>False) 321 [.agg (yL x),.s (.ptr a 0 0),.s (.ptr b 0 0)] g fun u g'=>u=fb (Yt c y x)∧g'=g:=by
 have la:=zd ha;have lb:=zd hb;refine Cl.ip rfl (zuJ rfl) fun Ψ hΨ=> ?_;simp[yL,ha,hb,la,lb]
 repeat' first|(refine zc (fun hc=> ?_) (fun hc=> ?_)<;>try simp[yL,ha,hb,la,lb])
 all_goals(refine Gh.pure (.s (.lt (by simp))) (hΨ _ _ ⟨?_,rfl⟩);simp at *;simp[Yt, *])
theorem zuB(x:Vi)(g:XH):Cl C (fun _=>False) 319 [.agg (yL x)] g fun u g'=>u=fb (x.n==0)∧g'=g:=by refine Cl.ip rfl (zuJ rfl) fun Ψ hΨ=> ?_;simp[yL];exact Gh.pure (.s (.lt (by simp))) (hΨ _ _ ⟨by simp,rfl⟩)
def JG(g:XH)(i k:Nat)(l:List Vi):Prop:=∃w o cs,g[i]? =some (.own 0 295 1 [.sl k w o l.length])∧g[k]? =some (.own w 327 3 cs)∧(o+l.length)*3≤cs.length∧(cs.drop (o*3)).take (l.length*3)=l.flatMap yL∧∀m,zr m cs
theorem JG.q{g:XH}{i k:Nat}{l:List Vi}(h:JG g i k l):zfz g (.ptr i 0 0) l:=by obtain⟨w,o,cs,h1,h2,h3,h4,_⟩:=h;exact⟨_,.inr ⟨i,rfl,h1⟩,.inr (.inr ⟨k,w,o,cs,rfl,by simp[zN,h2],h3,h4⟩)⟩
theorem zfS{α:Type}{enc:α→List XV}{z:Nat}(he:∀a,(enc a).length=z){cs:List XV}{o:Nat}{l:List α}(h:(cs.drop (o*z)).take (l.length*z)=l.flatMap enc){j:Nat}(hj:j<l.length){c:Nat}(hc:c<z):cs[(o+j)*z+c]? =(enc l[j])[c]? :=by obtain⟨_,_,a3⟩:=atX he hj;rw[←a3 c hc,←h,zvo,zuT,zvR,zvI,zwg];have:(j+1)*z≤l.length*z:=zvu _ hj;rw[zwU] at this;omega
theorem znn{α:Type}{enc:α→List XV}{z:Nat}(he:∀a,(enc a).length=z){cs:List XV}{o:Nat}{x:α}{l:List α}(h:(cs.drop (o*z)).take ((x::l).length*z)=(x::l).flatMap enc):(cs.drop ((o+1)*z)).take (l.length*z)=l.flatMap enc:=by have e:=congrArg (List.drop z) h;rw[zvS,←he x,List.drop_left' rfl,he x,zw6,zw5,zvA,zwU,zxT] at e;rw[zwU];exact e
def qr(y:Int):List Vi→Int
 |[]=>0
 |v::l=>if v.e<y then v.n+qr y l else 0
def yz(y:Int):List Vi→List Vi
 |[]=>[]
 |v::l=>if v.e<y then yz y l else v::l
theorem zl8{g:XH}{i k:Nat}{l:List Vi}(h:JG g i k l)(hne:i≠k)(hl:l.length≤1000)(hm:∀b∈l,za b.n=true)(y:Int):Cl C (fun x=>x=i) 278 [.s (.ptr i 0 0),fi y] g fun u g'=>u=fi (qr y l)∧JG g' i k (yz y l)∧Upd (fun x=>x=i) g g':=by
 obtain⟨w,o,cs,hi,hk,h3,h4,h5⟩:=h;have li:=zd hi;have lk:=zd hk;refine Cl.ip rfl (zuJ rfl) fun Ψ hΨ=> ?_;simp;refine Sc.rule rfl (fun n fr g'=>∃(o:Nat) (r:List Vi) (s:Int),n=r.length∧qr y l=s+qr y r∧yz y l=yz y r∧(∀b∈r,za b.n=true)∧(o+r.length)*3≤cs.length∧(cs.drop (o*3)).take (r.length*3)=r.flatMap yL∧-(100000000000*((l.length:Int)-r.length))≤s∧s≤100000000000*((l.length:Int)-r.length)∧fr=[(0,some (.s (.ptr i 0 0))),(1,some (fi y)),(5,some (fi s))]∧g'=g.set i (.own 0 295 1 [.sl k w o r.length])) l.length [(0,some (.s (.ptr i 0 0))),(1,some (fi y)),(5,some (fi 0))] g ?_ ?_ ?_
 ·simp
 ·exact⟨o,l,0,rfl,by simp,rfl,hm,h3,h4,by omega,by omega,rfl,(yZ hi).symm⟩
 ·rintro n fr g' ⟨o,r,s,rfl,e1,e2,hm,h3,h4,s1,s2,rfl,rfl⟩ hlt P hP;have u:Upd (fun x=>x=i) g (g.set i (.own 0 295 1 [.sl k w o r.length])):=(Upd.refl (S:=fun x=>x=i)).set (i:=i) rfl (by simp[lvO,lk]);have fin:qr y l=s→yz y l=r→Gh (fun x=>x=i) g Ψ (fi s) (g.set i (.own 0 295 1 [.sl k w o r.length])):=fun q1 q2=>by
   refine Gh.here (hΨ _ _ ⟨by rw[q1],?_,u⟩);rw[q2];exact⟨w,o,cs,yn li,by rw[zH hne];exact hk,h3,h4,h5⟩
  cases r with
  |nil=>
   simp[li,lk,hne,hne.symm,hk];exact fin (by rw[e1];simp[qr]) (by rw[e2];rfl)
  |cons v r=>
   have c1:=zfS zM h4 (j:=0) (by simp) (c:=1) (by decide);have c2:=zfS zM h4 (j:=0) (by simp) (c:=2) (by decide);have ct:=znn zM h4;simp[yL] at c1 c2;have hv:=hm v (by simp);have hw:IntKind.i64.wrap (s+v.n)=s+v.n:=by simp[za] at hv;simp at s1 s2;exact ze (by omega) (by omega)
   simp at h3 hlt;have hcs:¬cs=[]:=fun e=>by rw[e] at h3;simp at h3
   simp[li,lk,hne,hne.symm,hk,c1,c2];refine zc (fun hc=> ?_) (fun hc=> ?_)
   ·simp at hc;simp[li,lk,hne,hne.symm,hk,c1,c2,hw,hcs];refine hP r.length _ _ (by simp) ⟨_,[],(zvl _).symm,by simp,?_,?_,o+1,r,s+v.n,rfl,?_,?_,fun b hb=>hm b (by simp[hb]),by omega,ct,?_,?_,rfl,rfl⟩
    ·simpa using hlt
    ·intro j o' hj e;by_cases hji:i=j
     ·subst hji;rw[yn li] at e;exact .inr (zuK e▸by simp[lvO,lk])
     ·rw[zH hji] at e;exact .inl (by rw[zH hji];exact e)
    ·rw[e1];simp[qr,hc];omega
    ·rw[e2];simp[yz,hc]
    ·simp[za] at hv;simp at s1;omega
    ·simp[za] at hv;simp at s2;omega
   ·simp at hc;simp;exact fin (by rw[e1];simp[qr,show¬v.e<y by omega]) (by rw[e2];simp[yz,show¬v.e<y by omega])
def cB(b:Bu):List SV:=[.int .i64 b.c,.int .i64 b.y,.int .i64 b.n]
theorem zkg(l:List Bu):(l.flatMap cB).map XV.v=l.flatMap z1:=by rw[zxn];rfl
theorem ltK_B(a b:Bu):ltK [0,1] (cB a) (cB b)=ltB a b:=by simp[ltK,cB,ltB]
theorem zrj{g:XH}{i:Nat}{l:List Bu}(h:Yp g i l)(hl:l.length≤1000)(hd:jF ltB l=true):Cl C (fun _=>False) 218 [.s (.ptr i 0 0)] g fun u g'=>u= .s (.lst 261 3 l.length ((zu ltB l).flatMap z1))∧g'=g:=by have h1:g[i]? =_:=h;have li:=zd h1;refine Cl.ip rfl (zuJ rfl) fun Ψ hΨ=> ?_;simp[h1,li];refine zb.go (Y2 (enc:=z1) (z:=3) (l:=l) rfl rfl rfl zO (by decide) (RdX.lst g l) (fun a=>zaB a _) (by omega)) (fun _ _ h=>h.elim) ?_;rintro u g' ⟨w,rfl,rfl⟩;simp;refine zb.go (za6 (o:=0) (enc:=cB) (lta:=ltB) rfl (fun _=>rfl) (by decide) (fun a v hv=>by simp[cB] at hv;rcases hv with rfl|rfl|rfl<;>rfl) (fun _=>rfl) ltK_B (l:=l) (cs:=l.flatMap z1) (w:=w) (k:=g.length) (by simp) (by rw[zvv,zf zO];exact zuQ _) (by rw[zv4,zve,←zf zO,zvd,zkg]) hd (by omega)) (fun x hx e=> .inl (by omega)) ?_;rintro u g' ⟨rfl,rfl⟩;rw[zkg,zv4,ZV (by rw[zf zO,zf zO,zJ])];simp;exact Gh.pure (.s (.full (zuQ _) (fun j=>by simp) (by simp) (by rw[zf zO,zJ]) (.lts (JS _ _)))) (hΨ _ _ ⟨rfl,rfl⟩)
theorem jT{α:Type}{enc:α→List XV}{z:Nat}(he:∀a,(enc a).length=z){l:List α}{k:Nat}(hk:k<l.length){c:Nat}(hc:c<z){v:XV}{x:α}(hx:(enc l[k]).set c v=enc x)(junk:List XV):(l.flatMap enc++junk).set (k*z+c) v=(l.set k x).flatMap enc++junk:=by
 rw[←zbo he hk,←hx];have e1:l=l.take k++l[k]::l.drop (k+1):=by rw[←zvt hk,zvn]
 have l1:((l.take k).flatMap enc).length=k*z:=by rw[zf he,zu6,zvD (by omega)]
 generalize l[k]=y at *;rw[e1];simp only[zvq,zvS,zu9];generalize(l.take k).flatMap enc=P at *;generalize(l.drop (k+1)).flatMap enc=Q at *;rw[←l1,ZW ((enc y).set c v) (enc y) (Q++junk) P (by simp),zvX _ _ (by omega),show P.length+c-P.length=c by omega,zxJ _ _ (by rw[he];exact hc)]
theorem zqy{g r:XH}{x:XO}{k:Nat}(h:k=g.length):(g++x::r)[k]? =some x:=by subst h;exact ZK
abbrev zR(n:Int):List XV:=[xi n]
theorem zG(n:Int):(zR n).length=1:=rfl
@[simp] theorem zns(m:Nat)(l:List Int):zr m (l.flatMap zR):=zQ (fun a=>by simp[zR]) l
def Ya(v:Vi)(n:Int):Vi:={v with n:=v.n-n}
structure Upg(S:Nat→Prop)(g g':XH):Prop where
 le:g.length≤g'.length
 same:∀j:Nat,j<g.length→¬S j→g'[j]? =g[j]?
theorem zbM(l:List Vi)(us:List Int):Q0 l us=(List.zipWith Ya l us).filter fun v=> !(v.n==0):=by unfold Q0;rw[List.zip,List.map_zipWith];congr 1
theorem zqP{g:XH}{i k:Nat}{l:List Vi}(h:JG g i k l)(hne:i≠k)(hl:l.length≤1000){uv:XV}{us:List Int}(hu:RdX g 3 1 zR uv us)(hlen:us.length=l.length)(hok:∀j (h1:j<us.length) (h2:j<l.length),0≤us[j]∧us[j]≤l[j].n∧za l[j].n=true):Cl C (fun x=>x=i) 282 [.s (.ptr i 0 0),.s uv] g fun u g'=>u=fi 0∧∃k',g.length≤k'∧i≠k'∧JG g' i k' (Q0 l us)∧Upg (fun x=>x=i) g g':=by
 have hQ:=h.q;obtain⟨w,o,cs,hi,hk,h3,h4,h5⟩:=h;have li:=zd hi;have lk:=zd hk;refine Cl.ip rfl (zuJ rfl) fun Ψ hΨ=> ?_;simp[hu.len,hi,hk,li,lk,hlen];refine Lp.gen (keep:=[0,1,18,19,20]) us.length (fun q (_:Unit)=>[(0,some (.s (.ptr i 0 0))),(1,some (.s uv)),(18,some (.s uv)),(19,some (fi (l.length:Int))),(20,some (fi (q:Int)))]) (fun _ _=>g) (fun _ _=>True) () (by decide) (fun _ _=>rfl) trivial ?_ ?_
 ·intro q hq _ _ hlt N hN;have hql:q<l.length:=by omega
  obtain⟨p,cs',o',b1,b2,b3,b4,b5⟩:=hu.at zG (by decide) hq;have b6:=b5 rfl _ rfl;have c2:=zfS zM h4 hql (c:=2) (by decide);obtain⟨q1,q2,q3⟩:=hok q hq hql;simp[yL] at c2;generalize us[q]=un at *;generalize l[q]=lv at *;simp[l282_0,hql,b1,b2,b6,hi,hk,li,lk,c2,show¬un<0 by omega,show¬lv.n<un by omega,yB hq (by omega)];exact qG () hN trivial (by simp) (by simpa using hlt)
 ·intro _ _;rw[hlen];simp[l282_0];refine zb.go (zgn hQ hl) (fun _ _ h=>h.elim) ?_;rintro u g' ⟨w1,rfl,rfl⟩;have hu':RdX (g++[XO.own w1 327 3 (l.flatMap yL)]) 3 1 zR uv us:=hu.app;simp[hu'.len,hlen];refine Lp.gen (keep:=[0,7,42,43,44]) us.length (fun q (_:Unit)=>[(0,some (.s (.ptr i 0 0))),(7,some (.s (.sl g.length w1 0 l.length))),(42,some (.s uv)),(43,some (fi (l.length:Int))),(44,some (fi (q:Int)))]) (fun q _=>g++[.own w1 327 3 ((List.zipWith Ya (l.take q) (us.take q)++l.drop q).flatMap yL)]) (fun _ _=>True) () (by decide) (fun _ _=>rfl) trivial ?_ ?_
  ·intro q hq _ _ hlt N hN;have hql:q<l.length:=by omega
   have hu'':RdX (g++[XO.own w1 327 3 ((List.zipWith Ya (l.take q) (us.take q)++l.drop q).flatMap yL)]) 3 1 zR uv us:=hu.app;obtain⟨p,cs',o',b1,b2,b3,b4,b5⟩:=hu''.at zG (by decide) hq;have b6:=b5 rfl _ rfl;obtain⟨q1,q2,q3⟩:=hok q hq hql;obtain⟨M,hM⟩:∃M,M=List.zipWith Ya (l.take q) (us.take q)++l.drop q:=⟨_,rfl⟩
   have hMl:M.length=l.length:=by rw[hM];simp;omega
   have hzl:(List.zipWith Ya (l.take q) (us.take q)).length=q:=by simp;omega
   have hMq:M[q]'(by omega)=l[q]:=by
    have e:M[q]? =l[q]? :=by rw[hM,zuP (by omega),hzl,zvN,zvR,zwe]
    rw[zuY (by omega),zuY hql] at e;exact zuK e
   have hM2:List.zipWith Ya (l.take (q+1)) (us.take (q+1))++l.drop (q+1)=M.set q (Ya l[q] us[q]):=by have e1:l.take (q+1)=l.take q++[l[q]]:=zu3 hql;have e2:us.take (q+1)=us.take q++[us[q]]:=zu3 hq;rw[hM,e1,e2,List.zipWith_append (by simp;omega),zvX _ _ (by omega),hzl,zvN,zvt hql,zu9];rfl
   rw[hM2] at hN;rw[←hM] at hN hlt b1 b2⊢;obtain⟨a1,a2,a3⟩:=atX zM (l:=M) (k:=q) (by omega);have a4:=a3 2 (by decide);rw[hMq] at a4;have hs:=jT zM (l:=M) (k:=q) (by omega) (c:=2) (by decide) (v:=xi (l[q].n-us[q])) (x:=Ya l[q] us[q]) (by rw[hMq];rfl) [];simp only[zvl] at hs;have hcs:¬M.flatMap yL=[]:=fun e=>by rw[e] at a1;simp at a1
   have hw:IntKind.i64.wrap (l[q].n-us[q])=l[q].n-us[q]:=by simp[za] at q3;exact ze (by omega) (by omega)
   have ha3:q*3+2+1≤(M.flatMap yL).length:=by omega
   have hv2:=fun m=>JT m (M.set q (Ya l[q] us[q]));generalize M.flatMap yL=MC at *;generalize(M.set q (Ya l[q] us[q])).flatMap yL=MC2 at *;simp[yL] at a4;generalize us[q]=un at *;generalize l[q]=lv at *;simp[l282_1,hql,b1,b2,b6,a4,hs,hcs,hw,ha3,yB hq (by omega)];refine hN () _ _ trivial ⟨by simp,⟨[],by simp⟩,by simp,?_,?_⟩
   ·simpa using hlt
   ·exact .loc (by simp[lvO,hv2])
  ·intro _ _;rw[hlen,zvd,zvG (by omega),zx2,zvl];have hz:(List.zipWith Ya l us).length=l.length:=by simp;omega
   have hdel:=zcv (f:=318) (fi':=320) (c:= .v (.fn 319)) (q:=fun b=>b.n==0) rfl rfl (by decide) rfl rfl zM (g:=g++[XO.own w1 327 3 ((List.zipWith Ya l us).flatMap yL)]) (l:=List.zipWith Ya l us) (k:=g.length) (w:=w1) (junk:=[]) (by simp) (by omega) zfX (fun m=>by simp[zr]) (fun cells J=> .inl ⟨_,rfl,fun x _=>zuB x _⟩);rw[hz] at hdel;simp[l282_1];refine zb.go hdel (fun x hx e=> .inl (by omega)) ?_;rintro u g' ⟨junk,hj,rfl,rfl⟩;have ht:=zbM l us;rw[←ht];simp[li,hi];refine Gh.here (hΨ _ _ ⟨rfl,g.length,zuQ _,by omega,⟨w1,0,(Q0 l us).flatMap yL++junk,by rw[zq (by simpa using li)];exact yn li,?_,?_,?_,?_⟩,⟨by simp,?_⟩⟩)
   ·exact zqy (by simp)
   ·rw[zuR,zf zM,zvv];exact zwS _ _
   ·rw[zv4,zve,←zf zM,zwc];rfl
   ·exact fun m=>qf.2 ⟨JT m _,hj m⟩
   ·intro j hj hs;rw[zq (by simpa using hj),zH (by omega)]
section
attribute [-simp] zbh
theorem zlG{α:Type}{enc:α→List XV}{z:Nat}(he:∀a,(enc a).length=z){cs:List XV}{o:Nat}{l:List α}(h1:(o+l.length)*z≤cs.length)(h2:(cs.drop (o*z)).take (l.length*z)=l.flatMap enc):∃pre post,cs=pre++(l.flatMap enc++post)∧pre.length=o*z:=by
 refine⟨cs.take (o*z),(cs.drop (o*z)).drop (l.length*z),?_,?_⟩
 ·rw[←h2,zvn,zvn]
 ·rw[zvI] at h1;rw[zu6];omega
def cV(b:Vi):List SV:=[.int .i64 b.o,.int .i64 b.e,.int .i64 b.n]
theorem zkj(l:List Vi):(l.flatMap cV).map XV.v=l.flatMap yL:=by rw[zxn];rfl
theorem ltK_V(a b:Vi):ltK [1,0] (cV a) (cV b)=ltV a b:=by simp[ltK,cV,ltV]
theorem zhc{α:Type}{lt:α→α→Bool}{x:α}:∀{l:List α},jF lt l=true→(∀y∈l,(lt y x||lt x y)=true)→jF lt (l++[x])=true
 |[],_,_=>rfl
 |y::l,h,k=>by
  simp only[jF,zuS,zva] at h;simp only[zv9,jF,zuS,zva];refine⟨fun b hb=> ?_,zhc h.2 fun b hb=>k b (by simp[hb])⟩;rcases zuX.1 hb with hb|hb
  ·exact h.1 b hb
  ·obtain rfl:b=x:=by simpa using hb
   exact k y (by simp)
def QQ(o e n:Int):List Vi→List Vi
 |[]=>[]
 |x::l=>if Yt o e x then⟨x.o,x.e,x.n+n⟩::l else x::QQ o e n l
theorem zdk(o e n:Int):∀(l:List Vi) (k:Nat),(ym (Yt o e) k l= -1∧l.any (Yt o e)=false)∨∃i,ym (Yt o e) k l=((k+i:Nat):Int)∧l.any (Yt o e)=true∧∃h:i<l.length,QQ o e n l=l.set i ⟨l[i].o,l[i].e,l[i].n+n⟩
 |[],k=> .inl ⟨rfl,rfl⟩
 |x::l,k=>by
  unfold ym QQ;cases hx:Yt o e x with
  |true=>exact .inr ⟨0,rfl,by simp[hx],zx9 _,by simp⟩
  |false=>
   rcases zdk o e n l (k+1) with⟨e1,e2⟩|⟨i,e1,e2,e3,e4⟩
   ·exact .inl ⟨by simp[e1],by simp[hx,e2]⟩
   ·exact .inr ⟨i+1,by simp[e1];omega,by simp[hx,e2],by simpa using e3,by simp[e4]⟩
def QO(l:List Vi)(o e n:Int):Int×List Vi:=
 if¬ziy o e=true∨n<1∨¬za n=true then(1,l)
 else if¬za (zA l+n)=true then(6,l)
 else if l.any (Yt o e) then(0,QQ o e n l)
 else if 12≤l.length then(5,l)
 else(0,zu ltV (l++[⟨o,e,n⟩]))
theorem zfz.app{g J:XH}{p:XV}{l:List Vi}(h:zfz g p l):zfz (g++J) p l:=by
 obtain⟨v,h1|⟨i,h1,h2⟩,h3⟩:=h
 ·exact⟨v,.inl h1,h3.app⟩
 ·exact⟨v,.inr ⟨i,h1,by rw[zq (zd h2)];exact h2⟩,h3.app⟩
theorem ztw{g:XH}{i k:Nat}{l:List Vi}(h:JG g i k l)(hne:i≠k)(hl:l.length≤1000)(hm:∀b∈l,za b.n=true)(hL:za (zA l)=true)(hd:jF ltV l=true)(o' e' n:Int):Cl C (fun x=>x=i∨x=k) 283 [.s (.ptr i 0 0),fi o',fi e',fi n] g fun u g'=>u=fi (QO l o' e' n).1∧JG g' i k (QO l o' e' n).2∧Upd (fun x=>x=i∨x=k) g g':=by
 have hM:=h;have hQ:=h.q;obtain⟨w,o,cs,hi,hk,h3,h4,h5⟩:=h;have li:=zd hi;have lk:=zd hk;have hr:RdX g 327 3 yL (.sl k w o l.length) l:= .inr (.inr ⟨k,w,o,cs,rfl,by simp[zN,hk],h3,h4⟩);refine Cl.ip rfl (zuJ rfl) fun Ψ hΨ=> ?_;have no:∀n' J,QO l o' e' n=(n',l)→Gh (fun x=>x=i∨x=k) g Ψ (fi n') (g++J):=fun n' J q=>qX (S:=fun x=>x=i∨x=k) Upd.refl (by simp) (hΨ _ _ ⟨by rw[q],by rw[q];exact hM,Upd.refl⟩);simp[hi,hk,li,lk];refine zb.go0 (Ys (f:=320) rfl zM (by decide) hr.app (by omega) (.inr ⟨g.length+2,321,[],[.s (.ptr g.length 0 0),.s (.ptr (g.length+1) 0 0)],rfl,by simp,fun x _=>keyVP x o' e' (by simp) (by simp)⟩)) ?_;simp
 repeat' first|(refine zc (fun hc=> ?_) (fun hc=> ?_)<;>try simp)|(refine zb.pure (vinRP ..) ?_;try simp)|(refine zb.pure (z8 ..) ?_;try simp)
 all_goals try ((try simp only[zuZ,zvM] at *);exact no 1 _ (by unfold QO;rw[zuT (by clear no hΨ;simp_all)]))
 have hn:za n=true:=by assumption
 have hp:¬(¬ziy o' e'=true∨n<1∨¬za n=true):=by clear no hΨ;simp_all
 have e0:QO l o' e' n=if¬za (zA l+n)=true then(6,l)
  else if l.any (Yt o' e') then(0,QQ o' e' n l)
  else if 12≤l.length then(5,l)
  else(0,zu ltV (l++[⟨o',e',n⟩])):=by unfold QO;rw[zuV hp]
 refine zb.go0 (zkF hQ.app hl hm) ?_;simp[Js hL hn];refine zb.pure (z8 ..) ?_;simp;refine zc (fun hc=> ?_) (fun hc=> ?_)
 rotate_left
 ·simp;exact no 6 _ (by rw[e0,zuT (by simp[hc])])
 simp;rw[zuV (by simp[hc])] at e0;rcases zdk o' e' n l 0 with⟨q1,q2⟩|⟨j,q1,q2,hj,q3⟩
 ·rw[q2] at e0;rw[zuV (by simp)] at e0;simp[q1,hi,hk,li,lk];refine zc (fun hc=> ?_) (fun hc=> ?_)
  ·simp at hc;simp;exact no 5 _ (by rw[e0,zuT (by omega)])
  ·simp at hc;rw[zuV (by omega)] at e0;have hcut:zbh cs o l.length 3=l.flatMap yL:=by rw[zax,h4]
   simp[hi,hk,li,lk,hne,hne.symm,h3,hcut,show(l.length+1)*24≤140737488355328 by omega,show∀a b d:XV,zbh [a,b,d] 0 1 3=[a,b,d] from fun _ _ _=>rfl];have hda:jF ltV (l++[⟨o',e',n⟩])=true:=zhc hd fun y hy=>by rw[List.any_eq_false] at q2;have:=q2 y hy;simp[Yt] at this;simp[ltV];omega
   have f1:(l++[(⟨o',e',n⟩:Vi)]).flatMap yL=l.flatMap yL++[xi o',xi e',xi n]:=by simp[yL]
   have:=za6 (C:=C) (f:=323) (t:=327) (z:=3) (cf:=324) (lt:=ltK [1,0]) (okr:=okT [true,true,true]) (o:=0) (enc:=cV) (lta:=ltV) rfl (fun _=>rfl) (by decide) (fun a v hv=>by simp[cV] at hv;rcases hv with rfl|rfl|rfl<;>rfl) (fun _=>rfl) ltK_V (l:=l++[⟨o',e',n⟩]) (cs:=l.flatMap yL++[xi o',xi e',xi n]) (w:=w+1) (k:=k) (g:=(g.set k (.own (w+1) 327 3 (l.flatMap yL++[xi o',xi e',xi n]))).set i (.own 0 295 1 [.sl k (w+1) 0 (l.length+1)])++[.own 0 3 1 [xi o'],.own 0 3 1 [xi e'],.clo 321 [] [.s (.ptr g.length 0 0),.s (.ptr (g.length+1) 0 0)],.own 0 327 3 [xi o',xi e',xi n]]) (by simp[lk,hne,hne.symm]) (by rw[zvv,←f1,zf zM];exact zuQ _) (by rw[zv4,zve,←f1,←zf zM,zvd,zkj]) hda (by simp;omega);rw[zuR,zuW] at this;refine zb.go this (fun x hx e=> .inr (.inr e)) ?_;rintro u g' ⟨rfl,rfl⟩;rw[zkj,zv4,ZV (by rw[←f1,zf zM,zf zM,zJ])];have u:Upd (fun x=>x=i∨x=k) g (((g.set k (.own (w+1) 327 3 (l.flatMap yL++[xi o',xi e',xi n]))).set i (.own 0 295 1 [.sl k (w+1) 0 (l.length+1)])).set k (.own (w+1) 327 3 ((zu ltV (l++[⟨o',e',n⟩])).flatMap yL))):=((Upd.refl.set (.inr rfl) (by simp[lvO])).set (.inl rfl) (by simp[lvO,lk])).set (.inr rfl) (by simp[lvO]);simp[lk];refine qX u (by simp) (hΨ _ _ ⟨by rw[e0],?_,u⟩);rw[e0];refine⟨w+1,0,(zu ltV (l++[⟨o',e',n⟩])).flatMap yL,?_,?_,?_,?_,fun m=>JT m _⟩
   ·rw[zH hne.symm,yn (by simpa using li),zJ];simp
   ·exact yn (by simpa using lk)
   ·rw[zf zM,zvv];exact zuQ _
   ·rw[zv4,zve,←zf zM,zvd]
 ·rw[zvv] at q1;rw[q2,zuT rfl] at e0;obtain⟨pre,post,hcs,hpre⟩:=zlG zM h3 h4;have c2:=zfS zM h4 hj (c:=2) (by decide);simp[yL] at c2;have hjm:l[j]∈l:=zvi hj;have hw:IntKind.i64.wrap (l[j].n+n)=l[j].n+n:=Js (hm _ hjm) hn;have hcl:(o+j)*3+2+1≤cs.length:=by
   have:(o+j+1)*3≤(o+l.length)*3:=zvu _ (by omega);omega
  have hcn:¬cs=[]:=fun e=>by rw[e] at hcl;simp at hcl
  have hset:cs.set ((o+j)*3+2) (xi (l[j].n+n))=pre++((QQ o' e' n l).flatMap yL++post):=by rw[hcs,zvX _ _ (by omega),show(o+j)*3+2-pre.length=j*3+2 by omega,jT zM hj (c:=2) (by decide) (x:=⟨l[j].o,l[j].e,l[j].n+n⟩) rfl,q3]
  have hpl:(QQ o' e' n l).length=l.length:=by rw[q3,zvw]
  have hpost:∀m,zr m post:=fun m=>by have:=h5 m;rw[hcs,qf,qf] at this;exact this.2.2
  have hprel:∀m,zr m pre:=fun m=>by have:=h5 m;rw[hcs,qf] at this;exact this.1
  simp[q1,hi,hk,li,lk,hne,hne.symm,hj,c2,hw,hcl,hcn,hset];have u:Upd (fun x=>x=i∨x=k) g (g.set k (.own w 327 3 (pre++((QQ o' e' n l).flatMap yL++post)))):=Upd.refl.set (.inr rfl) (by simp[lvO,hpost,hprel]);refine qX u (by simp) (hΨ _ _ ⟨by rw[e0],?_,u⟩);rw[e0];refine⟨w,o,pre++((QQ o' e' n l).flatMap yL++post),?_,yn lk,?_,?_,fun m=>by simp[hprel,hpost]⟩
  ·rw[zH hne.symm,hi,hpl]
  ·rw[hcs] at h3;simp only[zuR,zf zM,hpl] at h3⊢;exact h3
  ·rw[List.drop_left' hpre,←zf zM,zwc];rfl
end
def Jz(l:List Int):Bool:=l.all za&&za l.sum
theorem zap{α:Type}{q:α→Bool}{l:List α}{k:Nat}(hk:k<l.length):(l.take (k+1)).all q=((l.take k).all q&&q l[k]):=by rw[zu3 hk,List.all_append];simp
theorem zrg{g:XH}{v:XV}{l:List Int}(hr:RdX g 3 1 zR v l)(hl:l.length≤1000):Cl C (fun _=>False) 316 [.s v] g fun u g'=>u= .tup [fi (if Jz l then l.sum else 0),fb (Jz l)]∧g'=g:=by
 refine Cl.ip rfl (zuJ rfl) fun Ψ hΨ=> ?_;simp[hr.len];refine Lp.gen (keep:=[4,7,8,9]) l.length (fun k s=>[(4,some (fi s)),(7,some (.s v)),(8,some (fi l.length)),(9,some (fi (k:Int)))]) (fun _ _=>g) (fun k s=>s=(l.take k).sum∧(l.take k).all za=true) 0 (by decide) (fun _ _=>rfl) (by simp) ?_ ?_
 ·rintro k hk s ⟨rfl,ha⟩ hlt N hN;obtain⟨p,cs,o,b1,b2,b3,b4,b5⟩:=hr.at zG (by decide) hk;have b6:=b5 rfl _ rfl;have hall:=zap (q:=za) hk;have hsum:(l.take (k+1)).sum=(l.take k).sum+l[k]:=by rw[zu3 hk,zwZ,zxR]
  have hb:=zbL (fun n:Int=>n) 100000000000 (by omega) (l.take k) fun b hb=>by simpa[za] using(zva.1 ha) b hb
  rw[zu6] at hb;simp only[List.map_id'] at hb;have hx:l[k]∈l:=zvi hk;simp[l316_0,hk,b1,b2,b6];refine zb.pure (z8 ..) ?_;simp;refine zc (fun hc=> ?_) (fun hc=> ?_)
  ·have hw:IntKind.i64.wrap ((l.take k).sum+l[k])=(l.take k).sum+l[k]:=by
    simp[za] at hc;exact ze (by omega) (by omega)
   simp[hw,yB hk (by omega)];exact qG ((l.take k).sum+l[k]) hN ⟨hsum.symm,by rw[hall,ha,hc];rfl⟩ (by simp) (by simpa using hlt)
  ·have e:Jz l=false:=by
    unfold Jz;rw[zw8];left;rw[zxz];exact⟨_,hx,by simp[hc]⟩
   simp;exact Gh.here (hΨ _ _ ⟨by simp[e],rfl⟩)
 ·rintro s ⟨rfl,ha⟩;rw[zvd] at ha⊢;simp[l316_0];refine zb.pure (z8 ..) ?_;simp;refine zc (fun hc=> ?_) (fun hc=> ?_)
  ·simp;exact Gh.here (hΨ _ _ ⟨by simp[Jz,ha,hc],rfl⟩)
  ·simp;exact Gh.here (hΨ _ _ ⟨by simp[Jz,ha,hc],rfl⟩)
def Jy(book perm moved:Int):Bool:=za moved&&Jz [book,perm,-moved]
theorem zqE(b p m:Int):Pure C 277 [fi b,fi p,fi m] (.tup [fi (if Jy b p m then b+p-m else 0),fb (Jy b p m)]):=by
 refine Pure.intro0 (e:=e277) rfl (zuJ rfl) (by simp) fun g Ψ h0 hJ=> ?_;simp;refine zb.pure (z8 ..) ?_;simp;refine zc (fun hc=> ?_) (fun hc=> ?_)
 ·have hw:IntKind.i64.wrap (-m)= -m:=by
   simp[za] at hc;exact ze (by omega) (by omega)
  simp[hw];have hr:RdX (g++[XO.own 0 3 1 [xi b,xi p,xi (-m)]]) 3 1 zR (.sl g.length 0 0 3) [b,p,-m]:=RdX.sl (l:=[b,p,-m]) zG (by simp);refine zb.go0 (zrg hr (by simp)) ?_;simp;have e:Jy b p m=Jz [b,p,-m]:=by simp[Jy,hc]
  refine q6 (hJ _) ?_;rw[e];simp[zxt,zxY]
 ·simp;exact q6 h0 (by simp[Jy,hc])
def Zw(n r:Int):Bool:=za n&&decide (0≤n)&&zn r
theorem ztk(n r:Int):Pure C 317 [fi n,fi r] (.tup [fi (if Zw n r then(n*r).tdiv 1000000 else 0),fb (Zw n r)]):=by
 refine Pure.intro0 (e:=e317) rfl (zuJ rfl) (by simp) fun g Ψ h0 hJ=> ?_;simp
 repeat' first|(refine zc (fun hc=> ?_) (fun hc=> ?_)<;>try simp)|(refine zb.pure (z8 ..) ?_;try simp)|(refine zb.pure (Zc ..) ?_;try simp)
 all_goals(refine q6 h0 ?_)
 all_goals try (have hf:Zw n r=false:=(by(try simp only[zuZ,zvM] at *);simp[Zw, *]<;>omega);simp[hf];done)
 ·have hn:za n=true:=by assumption
  have hr:zn r=true:=by assumption
  have h0':0≤n:=by simp at *;omega
  have hf:Zw n r=true:=by simp[Zw, *]
  have hn':=hn;have hr':=hr;simp[za] at hn';simp[zn] at hr';have b:=Jd (n:=n) (r:=r) (N:=100000000000) (R:=1000000) (by omega) (by omega) (by omega);have w:IntKind.i64.wrap (n*r)=n*r:=ze (by omega) (by omega);rw[hf,w];simp;exact zgT (by unfold zl1;omega) 1000000 (by omega)
def jD(n m:Int):Int:=if 1≤n∧Zw n m=true then(n*m).tdiv 1000000 else 0
theorem zt7(n m:Int):Pure C 280 [fi n,fi m] (fi (jD n m)):=by
 refine Pure.intro0 (e:=e280) rfl (zuJ rfl) (by simp) fun g Ψ h0 hJ=> ?_;simp
 repeat' first|(refine zc (fun hc=> ?_) (fun hc=> ?_)<;>try simp)|(refine zb.pure (ztk ..) ?_;try simp)
 all_goals(refine q6 h0 ?_;simp at *)
 ·simp[jD,show¬1≤n by omega]
 ·simp[jD,show 1≤n by omega]
def qi(y left:Int)(v:Vi):Int:=if y≤v.e then min v.n left else 0
def qa(y:Int):Int→List Vi→List Int
 |_,[]=>[]
 |left,v::l=>qi y left v::qa y (left-qi y left v) l
def Jw(y:Int):Int→List Vi→Int
 |left,[]=>left
 |left,v::l=>Jw y (left-qi y left v) l
theorem zfu(y:Int):∀(l:List Vi) (left:Int) (k:Nat) (hk:k<l.length),qa y left (l.take (k+1))=qa y left (l.take k)++[qi y (Jw y left (l.take k)) l[k]]∧Jw y left (l.take (k+1))=Jw y left (l.take k)-qi y (Jw y left (l.take k)) l[k]
 |[],_,k,hk=>by simp at hk
 |v::l,left,0,_=>by simp[qa,Jw]
 |v::l,left,k+1,hk=>by have:=zfu y l (left-qi y left v) k (by simpa using hk);simp only[zu8,qa,Jw,zwj,zv9];exact⟨by rw[this.1],this.2⟩
theorem YW(y:Int):∀(l:List Vi) (left:Int),(qa y left l).length=l.length
 |[],_=>rfl
 |v::l,left=>by simp[qa,YW y l]
theorem zhy(y:Int):∀(l:List Vi) (left:Int),0≤left→(∀v∈l,0≤v.n)→0≤Jw y left l∧Jw y left l≤left
 |[],_,h,_=>⟨h,Int.le_refl _⟩
 |v::l,left,h,hv=>by
  have h0:=hv v (by simp);have:0≤qi y left v∧qi y left v≤left:=by unfold qi;split<;>omega
  have:=zhy y l (left-qi y left v) (by omega) fun x hx=>hv x (by simp[hx]);simp only[Jw];omega
theorem zmF{g:XH}{v:XV}{l:List Vi}(hr:RdX g 327 3 yL v l)(hl:l.length≤1000)(y room:Int)(hroom:0≤room∧room≤100000000000)(hm:∀v∈l,0≤v.n∧za v.n=true):Cl C (fun _=>False) 279 [.s v,fi y,fi room] g (qk g 3 1 l.length ((qa y room l).flatMap zR)):=by
 refine Cl.ip rfl (zuJ rfl) fun Ψ hΨ=> ?_;have hmax:(if 0<room then room else 0)=room:=by split<;>omega
 simp[hr.len,hmax];refine Lp.ghost 3 1 (fr2:=[(1,some (fi y)),(7,some (fi room)),(8,some (.s (.sl g.length 0 0 0))),(14,some (.s v)),(15,some (fi l.length)),(16,some (fi 0))]) (by simp[GhF]) ?_;refine Lp.gen (keep:=[1,7,8,14,15,16]) (σ:=Nat) l.length (fun k w=>[(1,some (fi y)),(7,some (fi (Jw y room (l.take k)))),(8,some (.s (.sl g.length w 0 k))),(14,some (.s v)),(15,some (fi l.length)),(16,some (fi (k:Int)))]) (fun k w=>g++[.own w 3 1 ((qa y room (l.take k)).flatMap zR)]) (fun _ _=>True) 0 (by decide) (fun _ _=>rfl) trivial ?_ ?_
 ·intro k hk w _ hlt N hN;have hr2:RdX (g++[XO.own w 3 1 ((qa y room (l.take k)).flatMap zR)]) 327 3 yL v l:=hr.app;obtain⟨p,cs,o,b1,b2,b3,b4,_⟩:=hr2.at zM (by decide) hk;obtain⟨e1,e2⟩:=zfu y l room k hk;have hb:=zhy y (l.take k) room hroom.1 fun v hv=>(hm v (zvW hv)).1;have hx:=hm l[k] (zvi hk);have hvl:(qa y room (l.take k)).length=k:=by rw[YW,zu6];omega
  have hfl:((qa y room (l.take k)).flatMap zR).length=k:=by rw[zf zG,hvl];omega
  have hlv:∀m,zr m ((qa y room (l.take k)).flatMap zR):=fun m=>zQ (fun a=>by simp[zR,zr]) _;have hn:=yB hk (by omega);rw[e1,e2] at hN;rw[zvq] at hN;generalize(qa y room (l.take k)).flatMap zR=F at *;generalize Jw y room (l.take k)=left at *;generalize l[k]=x at *;have hvn:0≤qi y left x∧qi y left x≤left:=by unfold qi;split<;>omega
  have hw:IntKind.i64.wrap (left-qi y left x)=left-qi y left x:=ze (by omega) (by omega);simp[l279_0,hk,b1,b2,b3,b4,yL];refine zc (fun hc=> ?_) (fun hc=> ?_)
  ·simp at hc;have hv:qi y left x=min x.n left:=by unfold qi;rw[zuT hc]
   have hmin:(if left<x.n then left else x.n)=qi y left x:=by rw[hv];split<;>omega
   simp[hmin,hw,hfl,hn,show(k+1)*8≤140737488355328 by omega];refine hN (w+1) _ _ trivial ⟨by simp,⟨[_,_],by rw[zu9];rfl⟩,by simp,by simpa using hlt,.loc (by simp[lvO,hlv,zR])⟩
  ·simp at hc;have hv:qi y left x=0:=by unfold qi;rw[zuV (by omega)]
   rw[hv,Int.sub_zero] at hw hN;simp[hw,hfl,hn,show(k+1)*8≤140737488355328 by omega];refine hN (w+1) _ _ trivial ⟨by simp,⟨[_,_],by rw[zu9];rfl⟩,by simp,by simpa using hlt,.loc (by simp[lvO,hlv,zR])⟩
 ·intro w _;rw[zvd];simp[l279_0];exact Gh.here (hΨ _ _ ⟨w,rfl,rfl⟩)
theorem zrI{g:XH}{v:XV}{l:List Int}(hr:RdX g 3 1 zR v l)(hl:l.length≤1000)(hm:∀n∈l,za n=true):Cl C (fun _=>False) 281 [.s v] g fun u g'=>u=fi l.sum∧g'=g:=by
 refine Cl.ip rfl (zuJ rfl) fun Ψ hΨ=> ?_;simp[hr.len];refine Lp.gen (keep:=[3,6,7,8]) l.length (fun k s=>[(3,some (fi s)),(6,some (.s v)),(7,some (fi l.length)),(8,some (fi (k:Int)))]) (fun _ _=>g) (fun k s=>s=(l.take k).sum) 0 (by decide) (fun _ _=>rfl) (by simp) ?_ ?_
 ·rintro k hk s rfl hlt N hN;obtain⟨p,cs,o,b1,b2,b3,b4,b5⟩:=hr.at zG (by decide) hk;have b6:=b5 rfl _ rfl;have hsum:(l.take (k+1)).sum=(l.take k).sum+l[k]:=by rw[zu3 hk,zwZ,zxR]
  have hb:=zbL (fun n:Int=>n) 100000000000 (by omega) (l.take k) fun b hb=>by simpa[za] using hm b (zvW hb)
  rw[zu6] at hb;simp only[List.map_id'] at hb;have hx:=hm l[k] (zvi hk);have hw:IntKind.i64.wrap ((l.take k).sum+l[k])=(l.take k).sum+l[k]:=by simp[za] at hx;exact ze (by omega) (by omega)
  simp[l281_0,hk,b1,b2,b6,hw,yB hk (by omega)];exact qG ((l.take k).sum+l[k]) hN hsum.symm (by simp) (by simpa using hlt)
 ·rintro s rfl;rw[zvd];simp[l281_0];exact Gh.here (hΨ _ _ ⟨rfl,rfl⟩)
theorem curRP(y:Int):Pure C 276 [fi y] (fb (yF y)):=by
 refine Pure.intro0 (e:=e276) rfl (zuJ rfl) (by simp) fun g Ψ h0 hJ=> ?_;simp
 repeat' first|(refine zc (fun hc=> ?_) (fun hc=> ?_)<;>try simp)
 all_goals(simp at *;exact q6 h0 (by simp[yF, *]<;>omega))
abbrev Yv(l:List Int):XV:= .lst 3 1 l.length (l.flatMap zR)
def zD(r:Res):List XV:=[xi r.income,xi r.expired,xi r.used,xi r.new,xi r.taxable,xi r.tax,Yv r.vec]
abbrev lpV(l:List Vi):XV:= .lp [.lst 327 3 l.length (l.flatMap yL)] 0
theorem JG.same{g G:XH}{i k:Nat}{l:List Vi}(h:JG g i k l)(e1:G[i]? =g[i]?)(e2:G[k]? =g[k]?):JG G i k l:=by obtain⟨w,o,cs,h1,h2,h3⟩:=h;exact⟨w,o,cs,e1.trans h1,e2.trans h2,h3⟩
theorem JG.fz{g J:XH}{i k:Nat}{l:List Vi}(h:JG (g++J) i k l)(hi:g.length≤i)(hk:g.length≤k):FzV g.length J [] [] (.ptr i 0 0) (lpV l):=by obtain⟨w,o,cs,h1,h2,h3,h4,h5⟩:=h;rw[zuP hi] at h1;rw[zuP hk] at h2;have:=FzV.sl (n0:=g.length) (J:=J) (K:=[]) (O:=[]) (o:=o) (n:=l.length) hk (fun j=>by simp) h2 h3 (.lts (h5 _));rw[h4] at this;exact FzV.ptr hi (fun j=>by simp) h1 (by simp) (.cons this .nil)
structure LosI(l:List Vi):Prop where
 len:l.length≤12
 m:∀v∈l,0≤v.n∧za v.n=true
 t:za (zA l)=true
 d:jF ltV l=true
theorem J4:∀{l:List Vi},(∀v∈l,0≤v.n∧za v.n=true)→0≤zA l
 |[],_=>by simp[zA]
 |v::l,h=>by have h1:=h v (by simp);have h2:=J4 (l:=l) fun x hx=>h x (by simp[hx]);simp only[zA,zu7,zwu] at h2⊢;omega
theorem LosI.kept(y:Int):∀{l:List Vi},LosI l→LosI (yz y l)
 |[],h=>h
 |v::l,h=>by
  unfold yz;split
  ·refine LosI.kept y ⟨by have:=h.len;simp at this;omega,fun x hx=>h.m x (by simp[hx]),?_,?_⟩
   ·have h1:=h.t;have h2:=(h.m v (by simp)).1;have h3:=J4 (l:=l) fun x hx=>h.m x (by simp[hx]);simp only[zA,zu7,zwu,za,zuZ] at h1 h3;exact zv6 (by unfold zA;constructor<;>omega)
   ·have:=h.d;simp only[jF,zuS] at this;exact this.2
  ·exact h
theorem Qh(n cap:Int)(h:za n=true):0≤jD n cap∧jD n cap≤100000000000∧(1≤n→jD n cap≤n):=by
 unfold jD;split
 ·rename_i hc;have hf:=hc.2;simp[Zw,zn,za] at hf h;have h1:n*cap≤n*1000000:=zwJ hf.2.2 (by omega);have h0:0≤n*cap:=zxC (by omega) hf.2.1;rw[zwA h0];omega
 ·omega
theorem zgW(y:Int):∀(l:List Vi) (left:Int),0≤left→(∀v∈l,0≤v.n)→∀j (h1:j<(qa y left l).length) (h2:j<l.length),0≤(qa y left l)[j]∧(qa y left l)[j]≤l[j].n
 |[],_,_,_,j,_,h2=>by simp at h2
 |v::l,left,h,hv,j,h1,h2=>by
  have h0:=hv v (by simp);have:0≤qi y left v∧qi y left v≤left∧qi y left v≤v.n:=by unfold qi;split<;>omega
  cases j with
  |zero=>simp only[qa,List.getElem_cons_zero];omega
  |succ j=>
   simp only[qa,zwj];exact zgW y l _ (by omega) (fun x hx=>hv x (by simp[hx])) j _ _
theorem za8(y:Int):∀(l:List Vi) (left:Int),0≤left→(∀v∈l,0≤v.n)→0≤(qa y left l).sum∧(qa y left l).sum≤left
 |[],_,h,_=>by simp[qa];omega
 |v::l,left,h,hv=>by
  have h0:=hv v (by simp);have:0≤qi y left v∧qi y left v≤left:=by unfold qi;split<;>omega
  have:=za8 y l (left-qi y left v) (by omega) fun x hx=>hv x (by simp[hx]);simp only[qa,zwu];omega
def ZA(l:List Vi)(book perm moved cap life year r:Int):Int×Res×List Vi:=
 if¬zn cap=true∨¬zn r=true∨¬yF life=true∨¬yF year=true then(1,qN,[])
 else if¬Jy book perm moved=true then(6,qN,[])
 else
  let n:=book+perm-moved;let k:=yz year l;let gone:=qr year l
  if 0<n then
   let v:=qa year (jD n cap) k
   (0,⟨n,gone,v.sum,0,n-v.sum,zg (n-v.sum) r,v⟩,Q0 k v)
  else if n<0 then
   let a:=QO k year (year+life) (-n)
   if a.1=0 then(0,⟨n,gone,0,-n,0,zg 0 r,[]⟩,a.2) else(a.1,qN,[])
  else(0,⟨n,gone,0,0,0,zg 0 r,[]⟩,k)
def zj3(x:Int×Res×List Vi):XF:=if x.1=0 then .tup [.agg (zD x.2.1),.s (lpV x.2.2),fi 0] else .tup [.agg (zD qN),.s (.v .nilp),fi x.1]
theorem zs5{g:XH}{p:XV}{l:List Vi}(h:zfz g p l)(hI:LosI l)(book perm moved cap life year r:Int):Cl C (fun _=>False) 220 [.s p,fi book,fi perm,fi moved,fi cap,fi life,fi year,fi r] g fun u g'=>u=zj3 (ZA l book perm moved cap life year r)∧g'=g:=by
 refine Cl.ip rfl (zuJ rfl) fun Ψ hΨ=> ?_;have l0:∀n,lvV g.length (xi n):=fun n=>by simp
 have bad:∀e J,e≠0→ZA l book perm moved cap life year r=(e,qN,[])→Gh (fun _=>False) g Ψ (.tup [.agg [xi 0,xi 0,xi 0,xi 0,xi 0,xi 0,.v .nils],.s (.v .nilp),fi e]) (g++J):=fun e J he hx=>
  Gh.pure (.cons (.agg (.cons (.lt (l0 _)) (.cons (.lt (l0 _)) (.cons (.lt (l0 _)) (.cons (.lt (l0 _)) (.cons (.lt (l0 _)) (.cons (.lt (l0 _)) (.cons (.nil (t:=3) (z:=1)) .nil)))))))) (.cons (.s (.lt (by simp))) (.cons (.s (.lt (l0 _))) .nil))) (hΨ _ _ ⟨by rw[hx];simp[zj3,he,zD,qN],rfl⟩)
 have badG:∀e (G:XH),e≠0→ZA l book perm moved cap life year r=(e,qN,[])→(∀j,j<g.length→G[j]? =g[j]?)→g.length≤G.length→Gh (fun _=>False) g Ψ (.tup [.agg [xi 0,xi 0,xi 0,xi 0,xi 0,xi 0,.v .nils],.s (.v .nilp),fi e]) G:=by
  intro e G he hx hp hl;have e1:G=g++G.drop g.length:=by
   have:G.take g.length=g:=by
    apply zv5;intro j;by_cases hj:j<g.length
    ·rw[zvo,zuT hj,hp j hj]
    ·rw[zvo,zuV hj,zvU (by omega)]
   conv=>lhs;rw[←zvn g.length G,this]
  rw[e1];exact bad e _ he hx
 have good:∀(G:XH) (res:Res) (k':Nat) (l':List Vi) (vv:XV),ZA l book perm moved cap life year r=(0,res,l')→g.length≤k'→(∀j,j<g.length→G[j]? =g[j]?)→g.length≤G.length→JG G (g.length+2) k' l'→FzV g.length (G.drop g.length) [] [] vv (Yv res.vec)→Gh (fun _=>False) g Ψ (.tup [.agg [xi res.income,xi res.expired,xi res.used,xi res.new,xi res.taxable,xi res.tax,vv],.s (.ptr (g.length+2) 0 0),fi 0]) G:=by
  intro G res k' l' vv hx hk hp hl hM hv;have e:G=g++G.drop g.length:=by
   have:G.take g.length=g:=by
    apply zv5;intro j;by_cases hj:j<g.length
    ·rw[zvo,zuT hj,hp j hj]
    ·rw[zvo,zuV hj,zvU (by omega)]
   conv=>lhs;rw[←zvn g.length G,this]
  rw[e] at hM;rw[e];exact Gh.pure (.cons (.agg (.cons (.lt (l0 _)) (.cons (.lt (l0 _)) (.cons (.lt (l0 _)) (.cons (.lt (l0 _)) (.cons (.lt (l0 _)) (.cons (.lt (l0 _)) (.cons hv .nil)))))))) (.cons (.s (hM.fz (by omega) hk)) (.cons (.s (.lt (l0 _))) .nil))) (hΨ _ _ ⟨by rw[hx];simp[zj3,zD],rfl⟩)
 simp
 repeat' first|(refine zc (fun hc=> ?_) (fun hc=> ?_)<;>try simp)|(refine zb.pure (Zc ..) ?_;try simp)|(refine zb.pure (curRP ..) ?_;try simp)
 all_goals try (exact bad 1 _ (by decide) (by unfold ZA;rw[zuT (by clear bad badG good hΨ;simp_all)]))
 have hp:¬(¬zn cap=true∨¬zn r=true∨¬yF life=true∨¬yF year=true):=by clear bad badG good hΨ;simp_all
 have hry:zn r=true∧yF life=true∧yF year=true:=by clear bad badG good hΨ;simp_all
 refine zb.pure (zqE ..) ?_;simp;refine zc (fun hc=> ?_) (fun hc=> ?_)
 rotate_left
 ·simp;exact bad 6 _ (by decide) (by unfold ZA;rw[zuV hp,zuT (by simp[hc])])
 rw[hc]
 have e0:ZA l book perm moved cap life year r=
  let n:=book+perm-moved
  if 0<n then(0,⟨n,qr year l,(qa year (jD n cap) (yz year l)).sum,0,n-(qa year (jD n cap) (yz year l)).sum,zg (n-(qa year (jD n cap) (yz year l)).sum) r,qa year (jD n cap) (yz year l)⟩,Q0 (yz year l) (qa year (jD n cap) (yz year l)))
  else if n<0 then
   if(QO (yz year l) year (year+life) (-n)).1=0 then(0,⟨n,qr year l,0,-n,0,zg 0 r,[]⟩,(QO (yz year l) year (year+life) (-n)).2) else((QO (yz year l) year (year+life) (-n)).1,qN,[])
  else(0,⟨n,qr year l,0,0,0,zg 0 r,[]⟩,yz year l):=by
  unfold ZA;rw[zuV hp,zuV (by simp[hc])]
 have hnm:za (book+perm-moved)=true:=by simp[Jy,Jz] at hc;rw[zxt,zxY];exact hc.2.2
 generalize book+perm-moved=n at *;simp only at e0;simp;have hl:=hI.len;refine zb.go (zhE h.app (by omega)) (fun _ _ h=>h.elim) ?_;rintro u g' ⟨rfl,w,rfl⟩;simp;have hM:JG ((g++[.own 0 79 7 [xi 0,xi 0,xi 0,xi 0,xi 0,xi 0,.v .nils]])++[.own w 327 3 (l.flatMap yL),.own 0 295 1 [.sl (g.length+1) w 0 l.length]]) (g.length+2) (g.length+1) l:=⟨w,0,l.flatMap yL,by simp,by simp,by rw[zf zM,zvv];exact zuQ _,by rw[zv4,zve,←zf zM,zvd],fun m=>JT m l⟩
 simp at hM;refine zb.go (zl8 hM (by omega) (by omega) (fun v hv=>(hI.m v hv).2) year) (fun x hx e=> .inl (by omega)) ?_;rintro u g' ⟨rfl,hM',hU⟩;have hZ:g'[g.length]? =some (.own 0 79 7 [xi 0,xi 0,xi 0,xi 0,xi 0,xi 0,.v .nils]):=by rw[hU.same g.length (by omega)];simp
 have hpre:∀j,j<g.length→g'[j]? =g[j]? :=fun j hj=>by rw[hU.same j (by omega),zq hj]
 have hgl:g'.length=g.length+3:=by rw[hU.len];simp
 clear hU hM;simp;refine⟨by omega,?_⟩;refine zc (fun hn=> ?_) (fun hn=> ?_)
 ·simp at hn;rw[zuT hn] at e0;have hK:=hI.kept year;have hM2:∀J,JG (g'++J) (g.length+2) (g.length+1) (yz year l):=fun J=>hM'.same (zq (by omega)) (zq (by omega));simp;refine zb.go (Fresh.frz (zgn (hM2 _).q (by have:=hK.len;omega)) (JT _ _) (by rw[zf zM])) (fun _ _ h=>h.elim) ?_;rintro u g2 ⟨rfl,rfl⟩;simp;refine zb.pure (zt7 ..) ?_;have hroom:=Qh n cap hnm;simp;refine zb.go (Fresh.frz (zmF (RdX.lst _ _) (by have:=hK.len;omega) year (jD n cap) ⟨hroom.1,hroom.2.1⟩ hK.m) (zQ (fun a=>by simp[zR]) _) (by rw[zf zG,YW])) (fun _ _ h=>h.elim) ?_;rintro u g2 ⟨rfl,rfl⟩;have hv1:=zgW year (yz year l) (jD n cap) hroom.1 (fun v hv=>(hK.m v hv).1);have hv2:=za8 year (yz year l) (jD n cap) hroom.1 (fun v hv=>(hK.m v hv).1);have hv3:=YW year (yz year l) (jD n cap);have hkm:∀(j:Nat) (h:j<(yz year l).length),za (yz year l)[j].n=true:=fun j h=>(hK.m _ (zvi h)).2;have hkl:=hK.len;generalize jD n cap=room at *;rw[←hv3];generalize qa year room (yz year l)=vec at *;have hvm:∀x∈vec,za x=true:=fun x hx=>by
   obtain⟨j,hj,rfl⟩:=zw1 hx;have:=hv1 j hj (by omega);have h2:=hkm j (by omega);simp[za] at h2⊢;omega
  simp;refine⟨by omega,?_⟩;have hRd:∀g:XH,RdX g 3 1 zR (Yv vec) vec:=fun g=>RdX.lst g vec;refine zb.go (zrI (hRd _) (by omega) hvm) (fun _ _ h=>h.elim) ?_;rintro u g2 ⟨rfl,rfl⟩;simp;refine⟨by omega,?_⟩;refine zb.go (zqP (hM2 _) (by omega) (by omega) (hRd _) hv3 fun j h1 h2=>⟨(hv1 j h1 h2).1,(hv1 j h1 h2).2,hkm j h2⟩) (fun x hx e=> .inl (by omega)) ?_;rintro u g2 ⟨rfl,k2,hk1,hk2,hA,hU⟩;simp at hk1;have hZ2:g2[g.length]? =some (.own 0 79 7 [xi 0,xi 0,xi 0,xi 0,xi 0,xi 0,.v .nils]):=by rw[hU.same g.length (by simp;omega) (by omega),zq (by omega)];exact hZ
  have hR2:g2[g'.length]? =some (.own 0 79 7 [xi n,xi (qr year l),xi vec.sum,xi 0,xi 0,xi 0,Yv vec]):=by rw[hU.same g'.length (by simp) (by omega)];exact ZK
  have hpre2:∀j,j<g.length→g2[j]? =g[j]? :=fun j hj=>by rw[hU.same j (by simp;omega) (by omega),zq (by omega),hpre j hj]
  have hl2:g.length+4≤g2.length:=by have:=hU.le;simp at this;omega
  clear hU;have w1:IntKind.i64.wrap (n-vec.sum)=n-vec.sum:=by simp[za] at hnm;exact ze (by omega) (by omega)
  have w2:IntKind.i64.wrap (n-vec.sum+0)=n-vec.sum:=by rw[zx7];exact w1
  simp[hZ2,hR2,w1,w2,show g.length<g2.length by omega,show g'.length<g2.length by omega];refine⟨by omega,?_⟩;refine zb.pure (ofX ..) ?_;have hne2:∀X,(g2.set g'.length X)[g.length]? =g2[g.length]? :=fun X=>zH (by omega);simp[hZ2,hR2,hne2,show g.length<g2.length by omega,show g'.length<g2.length by omega,show g.length≤g'.length by omega];refine good _ ⟨n,qr year l,vec.sum,0,n-vec.sum,zg (n-vec.sum) r,vec⟩ k2 _ _ e0 (by omega) (fun j hj=> ?_) (by simp;omega) (hA.same ?_ ?_) (.lt (by simp))
  ·rw[zH (by omega),zH (by omega),hpre2 j hj]
  ·rw[zH (by omega),zH (by omega)]
  ·rw[zH (by omega),zH (by omega)]
 ·simp at hn;rw[zuV (by omega)] at e0;simp;refine zc (fun hn'=> ?_) (fun hn'=> ?_)
  ·simp at hn';rw[zuT hn'] at e0;have hK:=hI.kept year;have wy:IntKind.i64.wrap (year+life)=year+life:=by
    have:=hry.2;simp[yF] at this;exact ze (by omega) (by omega)
   have wn:IntKind.i64.wrap (-n)= -n:=by simp[za] at hnm;exact ze (by omega) (by omega)
   simp[wy,wn];refine⟨by omega,?_⟩;have hM2:JG (g'++[.own 0 79 7 [xi n,xi (qr year l),xi 0,xi (-n),xi 0,xi 0,.v .nils]]) (g.length+2) (g.length+1) (yz year l):=hM'.same (zq (by omega)) (zq (by omega));refine zb.go (ztw hM2 (by omega) (by have:=hK.len;omega) (fun v hv=>(hK.m v hv).2) hK.t hK.d year (year+life) (-n)) (fun x hx e=> .inl (by omega)) ?_;rintro u g2 ⟨rfl,hA,hU⟩;simp;have hZ2:g2[g.length]? =some (.own 0 79 7 [xi 0,xi 0,xi 0,xi 0,xi 0,xi 0,.v .nils]):=by rw[hU.same g.length (by omega),zq (by omega)];exact hZ
   have hR2:g2[g'.length]? =some (.own 0 79 7 [xi n,xi (qr year l),xi 0,xi (-n),xi 0,xi 0,.v .nils]):=by rw[hU.same g'.length (by omega)];exact ZK
   have hpre2:∀j,j<g.length→g2[j]? =g[j]? :=fun j hj=>by rw[hU.same j (by omega),zq (by omega),hpre j hj]
   have hl2:g2.length=g.length+4:=by rw[hU.len];simp;omega
   clear hU;refine zc (fun ha=> ?_) (fun ha=> ?_)
   ·simp at ha;simp[hZ2,hR2,show g.length<g2.length by omega,show g'.length<g2.length by omega];refine badG _ _ ha (by rw[e0,zuV ha]) (fun j hj=> ?_) (by simp;omega);rw[zH (by omega),hpre2 j hj]
   ·simp at ha;simp[hZ2,hR2,show g.length<g2.length by omega,show g'.length<g2.length by omega];rw[zuT ha] at e0;have wnn:IntKind.i64.wrap n=n:=zj6 hnm;have w0:IntKind.i64.wrap (n+ -n)=0:=by rw[Int.add_right_neg];rfl
    simp[wnn,w0];refine⟨by omega,?_⟩;refine zb.pure (ofX ..) ?_;have hne2:∀X,(g2.set g'.length X)[g.length]? =g2[g.length]? :=fun X=>zH (by omega);simp[hZ2,hR2,hne2,show g.length<g2.length by omega,show g'.length<g2.length by omega,show g.length≤g'.length by omega];refine good _ ⟨n,qr year l,0,-n,0,zg 0 r,[]⟩ (g.length+1) _ _ e0 (by omega) (fun j hj=> ?_) (by simp;omega) (hA.same ?_ ?_) .nil
    ·rw[zH (by omega),zH (by omega),hpre2 j hj]
    ·rw[zH (by omega),zH (by omega)]
    ·rw[zH (by omega),zH (by omega)]
  ·simp at hn';rw[zuV (by omega)] at e0;obtain rfl:n=0:=by omega
   have w0:IntKind.i64.wrap 0=0:=rfl;simp[w0];refine⟨by omega,?_⟩;refine zb.pure (ofX ..) ?_;simp[hZ,show g.length<g'.length by omega,show g.length≤g'.length by omega];refine good _ ⟨0,qr year l,0,0,0,zg 0 r,[]⟩ (g.length+1) (yz year l) _ e0 (by omega) (fun j hj=> ?_) (by simp;omega) (hM'.same ?_ ?_) .nil
   ·rw[zq (by simp;omega),zH (by omega),hpre j hj]
   ·rw[zq (by simp;omega),zH (by omega)]
   ·rw[zq (by simp;omega),zH (by omega)]
end
end Go.Proofs.YtdmcfjkgopmlgaaGreatDoor.Ev.CA
namespace Go.Proofs.YtdmcfjkgopmlgaaGreatDoor.Ev
open Go
section
attribute [-simp] List.length_flatMap getElem?_pos
theorem FzF.i{n0:Nat}{J:XH}{K:List (Option Nat)}{O:XH}{n:Int}:FzF n0 J K O ((.s (.v (.int .i64 n)))) ((.s (.v (.int .i64 n)))):= .s (.lt (by simp))
theorem FzF.b{n0:Nat}{J:XH}{K:List (Option Nat)}{O:XH}{n:Bool}:FzF n0 J K O ((.s (.v (.bool n)))) ((.s (.v (.bool n)))):= .s (.lt (by simp))
theorem FzF.t2{n0:Nat}{J:XH}{K:List (Option Nat)}{O:XH}{a a' b b':XF}(h1:FzF n0 J K O a a')(h2:FzF n0 J K O b b'):FzF n0 J K O (.tup [a,b]) (.tup [a',b']):= .cons h1 (.cons h2 .nil)
theorem FzV.fl{α:Type}{enc:α→List XV}{z:Nat}(he:∀a,(enc a).length=z)(hv:∀(m:Nat) (a:α),zr m (enc a)){n0:Nat}{J:XH}{i w t:Nat}{l:List α}(h1:n0≤i)(h2:J[i-n0]? =some (.own w t z (l.flatMap enc))):FzV n0 J [] [] (.sl i w 0 l.length) (.lst t z l.length (l.flatMap enc)):=
 .full h1 (fun j=>by simp) h2 (by rw[zf he]) (.lts (zQ (hv n0) l))
theorem y7{g J:XH}{A A' A0:XO}{F fr:XFr}{N:XFr→XH→Prop}(hN:∀fr' g',Nxt (g++[A0]) F (g++[A']) fr' g'→N fr' g')(hA:A=A')(hf:fr=F)(hl:qm (g++[A']).length F)(ho:lvO (g++[A']).length A'):N fr (g++A::J):=by subst hA;refine zcH hN J (by simp) hf hl (by simp) ?_;intro o h;rw[zvm] at h;subst h;exact ho
theorem zjB{g J:XH}{A A' A0 B B' B0:XO}{F fr:XFr}{N:XFr→XH→Prop}(hN:∀fr' g',Nxt (g++[A0,B0]) F (g++[A',B']) fr' g'→N fr' g')(hA:A=A')(hB:B=B')(hf:fr=F)(hl:qm (g++[A',B']).length F)(ho:lvO (g++[A',B']).length A')(ho2:lvO (g++[A',B']).length B'):N fr (g++A::B::J):=by
 subst hA;subst hB;refine zcH hN J (by simp) hf hl (by simp) ?_;intro o h;rcases zu4.1 h with rfl|h
 ·exact ho
 ·rw[zvm] at h;subst h;exact ho2
end
end Go.Proofs.YtdmcfjkgopmlgaaGreatDoor.Ev
namespace Go.Proofs.YtdmcfjkgopmlgaaGreatDoor.Ev.CA
open Go
section
attribute [-simp] List.length_flatMap getElem?_pos
def zh6:XFr→Nat→XF→XFr
 |[],_,_=>[]
 |(m,x)::r,n,v=>if m=n then(m,some v)::r else(m,x)::zh6 r n v
def qo(fr:XFr):List (Nat×XF)→XFr
 |[]=>fr
 |(n,v)::r=>qo (zh6 fr n v) r
theorem zot{n:Nat}{v:XF}:zh6 [] n v=[]:=rfl
theorem zmd{m n:Nat}{x:Option XF}{r:XFr}{v:XF}:zh6 ((m,x)::r) n v=if m=n then(m,some v)::r else(m,x)::zh6 r n v:=rfl
theorem zo4{fr:XFr}:qo fr []=fr:=rfl
theorem zft{fr:XFr}{n:Nat}{v:XF}{r:List (Nat×XF)}:qo fr ((n,v)::r)=qo (zh6 fr n v) r:=rfl
attribute [simp] zot zmd zo4 zft
theorem zfe(n:Nat)(v:XF):∀(fr:XFr),(zh6 fr n v).map (·.1)=fr.map (·.1)
 |[]=>rfl
 |(m,x)::r=>by
  unfold zh6;split
  ·rfl
  ·simp[zfe n v r]
theorem YV:∀(l:List (Nat×XF)) (fr:XFr),(qo fr l).map (·.1)=fr.map (·.1)
 |[],_=>rfl
 |(n,v)::r,fr=>by rw[zft,YV r,zfe]
theorem Lp.foldU{α σ:Type}{B:Nat→Prop}{keep:List Nat}{b:EC}{Φ:Ex→XFr→XH→Prop}{fr:XFr}{g:XH}(l:List α)(V:Nat→σ→List (Nat×XF))(G:Nat→σ→XH)(step:σ→α→σ)(s0:σ)(hk:keep.Nodup)(hF:fr.map (·.1)=keep)(h0:fr=qo fr (V 0 s0))(hg:g=G 0 s0)
 (body:∀k (hk:k<l.length) (s:σ),s=(l.take k).foldl step s0→qm (G k s).length (qo fr (V k s))→∀N:XFr→XH→Prop,(∀fr' g',Nxt (G k s) (qo fr (V (k+1) (step s l[k]))) (G (k+1) (step s l[k])) fr' g'→N fr' g')→wk C B b (qo fr (V k s)) (G k s) (KLx N keep Φ))
 (fin:∀s,s=l.foldl step s0→wk C B b (qo fr (V l.length s)) (G l.length s) (KLx (fun _ _=>False) keep Φ)):
 Lp C B keep b fr g Φ:=by
 have:=Lp.fold (C:=C) (B:=B) (b:=b) (Φ:=Φ) (keep:=keep) l (fun k s=>qo fr (V k s)) G step s0 hk (fun k s=>(YV _ _).trans hF) body fin;rw[←h0,←hg] at this;exact this
theorem Lp.genU{σ:Type}{B:Nat→Prop}{keep:List Nat}{b:EC}{Φ:Ex→XFr→XH→Prop}{fr:XFr}{g:XH}(n:Nat)(V:Nat→σ→List (Nat×XF))(G:Nat→σ→XH)(P:Nat→σ→Prop)(s0:σ)(hk:keep.Nodup)(hF:fr.map (·.1)=keep)(h0:fr=qo fr (V 0 s0))(hg:g=G 0 s0)(p0:P 0 s0)
 (body:∀k (hk:k<n) (s:σ),P k s→qm (G k s).length (qo fr (V k s))→∀N:XFr→XH→Prop,(∀s' fr' g',P (k+1) s'→Nxt (G k s) (qo fr (V (k+1) s')) (G (k+1) s') fr' g'→N fr' g')→wk C B b (qo fr (V k s)) (G k s) (KLx N keep Φ))
 (fin:∀s,P n s→wk C B b (qo fr (V n s)) (G n s) (KLx (fun _ _=>False) keep Φ)):
 Lp C B keep b fr g Φ:=by
 have:=Lp.gen (C:=C) (B:=B) (b:=b) (Φ:=Φ) (keep:=keep) n (fun k s=>qo fr (V k s)) G P s0 hk (fun k s=>(YV _ _).trans hF) p0 body fin;rw[←h0,←hg] at this;exact this
theorem Lp.genG{σ:Type}{B:Nat→Prop}{keep:List Nat}{b:EC}{Φ:Ex→XFr→XH→Prop}{fr:XFr}{g:XH}(t z:Nat)(n:Nat)(V:Nat→σ→List (Nat×XF))(G:Nat→σ→XH)(P:Nat→σ→Prop)(s0:σ)(hk:keep.Nodup)(hF:fr.map (·.1)=keep)(h0:GhF g.length fr (qo fr (V 0 s0)))(hg:G 0 s0=g++[.own 0 t z []])(p0:P 0 s0)
 (body:∀k (hk:k<n) (s:σ),P k s→qm (G k s).length (qo fr (V k s))→∀N:XFr→XH→Prop,(∀s' fr' g',P (k+1) s'→Nxt (G k s) (qo fr (V (k+1) s')) (G (k+1) s') fr' g'→N fr' g')→wk C B b (qo fr (V k s)) (G k s) (KLx N keep Φ))
 (fin:∀s,P n s→wk C B b (qo fr (V n s)) (G n s) (KLx (fun _ _=>False) keep Φ)):
 Lp C B keep b fr g Φ:=by
 have:=Lp.gen (C:=C) (B:=B) (b:=b) (Φ:=Φ) (keep:=keep) n (fun k s=>qo fr (V k s)) G P s0 hk (fun k s=>(YV _ _).trans hF) p0 body fin;rw[hg] at this;exact Lp.ghost t z h0 this
theorem RdX.atJ{α:Type}{enc:α→List XV}{t z:Nat}(he:∀a,(enc a).length=z)(hz:z≠0){g:XH}{v:XV}{l:List α}(r:RdX g t z enc v l){k:Nat}(hk:k<l.length):∃p cs o,jM g t z (k:Int) (.s v)=some p∧rdX g (.s p)=some (cs,o)∧(∀J,jM (g++J) t z (k:Int) (.s v)=some p∧rdX (g++J) (.s p)=some (cs,o))∧o+z≤cs.length∧(cs.drop o).take z=enc l[k]∧∀c,c<z→cs[o+c]? =(enc l[k])[c]? :=by
 have fin:∀(cs:List XV) o,o+z≤cs.length→(cs.drop o).take z=enc l[k]→o+z≤cs.length∧(cs.drop o).take z=enc l[k]∧∀c,c<z→cs[o+c]? =(enc l[k])[c]? :=fun cs o h1 h2=>by refine⟨h1,h2,fun c hc=> ?_⟩;rw[←h2,zvo,zuT hc,zvR]
 obtain⟨a1,a2,_⟩:=atX he hk;rcases r with⟨rfl,_⟩|rfl|⟨i,w,o,cs,rfl,h,h1,h2⟩
 ·simp at hk
 ·exact⟨.lp (l.flatMap enc) (k*z),_,_,by simp[jM,hk],rfl,fun J=>⟨by simp[jM,hk],rfl⟩,fin _ _ a1 a2⟩
 ·have e1:(o+k)*z=o*z+k*z:=zvI _ _ _;have e2:(o+l.length)*z=o*z+l.length*z:=zvI _ _ _;have e3:(k+1)*z≤l.length*z:=zvu _ hk;rw[zwU] at e3;have hJ:∀J,zN (g++J) i w=some (t,z,cs):=fun J=>zc0 h;refine⟨.ptr i w ((o+k)*z),cs,(o+k)*z,by simp only[jM,h,and_self,if_true,zxP,Int.ofNat_lt,hk,zxW],by simp only[rdX,h],fun J=>⟨by simp only[jM,hJ J,and_self,if_true,zxP,Int.ofNat_lt,hk,zxW],by simp only[rdX,hJ J]⟩,fin _ _ (by omega) ?_⟩;rw[←a2,←h2,e1,←zw5,zw6,zwN,zvD (by omega)]
theorem RdX.at1{α:Type}{enc:α→List XV}{t:Nat}(he:∀a,(enc a).length=1){g:XH}{v:XV}{l:List α}(r:RdX g t 1 enc v l){k:Nat}(hk:k<l.length):∃p cs o,jM g t 1 (k:Int) (.s v)=some p∧rdX g (.s p)=some (cs,o)∧(∀J,jM (g++J) t 1 (k:Int) (.s v)=some p∧rdX (g++J) (.s p)=some (cs,o))∧cs[o]? =(enc l[k])[0]? :=by obtain⟨p,cs,o,h1,h2,h3,h4,h5,h6⟩:=r.atJ he (by decide) hk;exact⟨p,cs,o,h1,h2,h3,h6 0 (by decide)⟩
section
variable {g r:XH} {i j k:Nat} {x x2 y z:XO}
@[simp] theorem getS_len:(g.set i x++y::r)[g.length]? =some y:=by
 have:g.length=(g.set i x).length:=by simp
 rw[this,ZK]
@[simp] theorem getS_add:(g.set i x++r)[g.length+k]? =r[k]? :=by
 have:g.length=(g.set i x).length:=by simp
 rw[this,zaJ]
@[simp] theorem setS_at:(g.set i x++y::r).set g.length z=g.set i x++z::r:=by
 have:g.length=(g.set i x).length:=by simp
 rw[this,zgL]
@[simp] theorem setS_add:(g.set i x++r).set (g.length+k) z=g.set i x++r.set k z:=by
 have:g.length=(g.set i x).length:=by simp
 rw[this,zeb]
@[simp] theorem zuF:((g.set i x).set j x2++y::r)[g.length]? =some y:=by
 have:g.length=((g.set i x).set j x2).length:=by simp
 rw[this,ZK]
@[simp] theorem zuE:((g.set i x).set j x2++r)[g.length+k]? =r[k]? :=by
 have:g.length=((g.set i x).set j x2).length:=by simp
 rw[this,zaJ]
@[simp] theorem setS2_at:((g.set i x).set j x2++y::r).set g.length z=(g.set i x).set j x2++z::r:=by
 have:g.length=((g.set i x).set j x2).length:=by simp
 rw[this,zgL]
@[simp] theorem zuH:((g.set i x).set j x2++r).set (g.length+k) z=(g.set i x).set j x2++r.set k z:=by
 have:g.length=((g.set i x).set j x2).length:=by simp
 rw[this,zeb]
end
abbrev wr(n:Int):Int:=IntKind.i64.wrap n
theorem qO.app{T R:Nat}{g J:XH}{i k:Nat}{t:List Rw}(h:qO T R g i k t):qO T R (g++J) i k t:=by obtain⟨w,h1,h2⟩:=h;exact⟨w,by rw[zq (zd h1)];exact h1,by rw[zq (zd h2)];exact h2⟩
theorem ztE(a b:Int):(if b<a then b else a)=min a b:=by split<;>omega
theorem ztC(a b:Int):(if a<b then b else a)=max a b:=by split<;>omega
theorem zcc(t:List Rw)(j:ByteArray)(p:Int):∀(l:List Int) (y:Int) (acc:List Int),zS t j p l=some acc→zS t j p (l++[y])=(jm t j (max y (p.tdiv 4)) p).map fun r=>acc++[r]
 |[],y,acc,h=>by
  simp only[zS,zuI] at h;subst h;simp only[zwo,zS];cases jm t j (max y (p.tdiv 4)) p<;>rfl
 |x::l,y,acc,h=>by
  simp only[zS,zv9] at h⊢;cases hx:jm t j (max x (p.tdiv 4)) p with
  |none=>rw[hx] at h;cases h
  |some r=>
   rw[hx] at h;simp only at h⊢;obtain⟨acc',h1,rfl⟩:=zuM.1 h;rw[zcc t j p l y acc' h1];cases jm t j (max y (p.tdiv 4)) p<;>rfl
theorem zcb(t:List Rw)(j:ByteArray)(p:Int):∀(l m:List Int),zS t j p l=none→zS t j p (l++m)=none
 |[],m,h=>by simp[zS] at h
 |x::l,m,h=>by
  simp only[zS,zv9] at h⊢;cases hx:jm t j (max x (p.tdiv 4)) p with
  |none=>rfl
  |some r=>
   rw[hx] at h;simp only[Option.map_eq_none_iff] at h⊢;exact zcb t j p l m h
theorem zhR{g:XH}{i k:Nat}{t:List Rw}(ht:qO 145 140 g i k t)(hl:t.length≤1000)(j:ByteArray)(p:Int):
 Cl C (fun _=>False) 92 [.s (.ptr i 0 0),fs j,fi p] g fun u g'=>u= .tup [fi (yR t j p).1,fi (yR t j p).2]∧g'=g:=by
 refine Cl.ip rfl (zuJ rfl) fun Ψ hΨ=> ?_;simp;refine zb.pure (Zh ..) ?_;simp;refine zc (fun hc=> ?_) (fun hc=> ?_)
 ·have hy:Yo p=p.tdiv 4:=by unfold Yo;rw[zuT hc]
  have hb:=ziF p;rw[hy] at hb;simp;refine zb.pure (zli ..) ?_;rw[hy];simp[ze (n:=p.tdiv 4+1) (by omega) (by omega),ztE];refine zb.go0 (zgS ht hl j (min (p.tdiv 4+1) 99) p) ?_;rcases hr:jm t j (min (p.tdiv 4+1) 99) p with _|r
  ·simp;exact Gh.here (hΨ _ _ ⟨by simp[yR,hc,hr],rfl⟩)
  ·simp;exact Gh.here (hΨ _ _ ⟨by simp[yR,hc,hr],rfl⟩)
 ·simp;exact Gh.here (hΨ _ _ ⟨by simp[yR,hc],rfl⟩)
def Zs(t:List Rw)(j:ByteArray)(p:Int)(ys:List Int):XF:=if zl p then match zS t j p ys with
 |some l=> .tup [.s (Yv l),fi 0]
 |none=> .tup [.s (.v .nils),fi 7]
 else .tup [.s (.v .nils),fi 1]
theorem zox{g:XH}{i k:Nat}{t:List Rw}(ht:qO 145 140 g i k t)(hl:t.length≤1000)(j:ByteArray)(p:Int){v:XV}{l:List Bu}(hr:RdX g 261 3 z1 v l)(hb:l.length≤1000):
 Cl C (fun _=>False) 272 [.s (.ptr i 0 0),fs j,.s v,fi p] g fun u g'=>u=Zs t j p (l.map (·.y))∧g'=g:=by
 refine Cl.ip rfl (zuJ rfl) fun Ψ hΨ=> ?_;simp;refine zb.pure (Zh ..) ?_;simp;refine zc (fun hc=> ?_) (fun hc=> ?_)
 ·have hy:Yo p=p.tdiv 4:=by unfold Yo;rw[zuT hc]
  have hyb:=ziF p;rw[hy] at hyb;simp[hr.len];refine Lp.ghost 3 1 (fr2:=[(0,some (.s (.ptr i 0 0))),(1,some (fs j)),(3,some (fi p)),(10,some (.s (.sl g.length 0 0 0))),(18,some (.s v)),(19,some (fi l.length)),(20,some (fi 0))]) (by simp[GhF]) ?_;refine Lp.genU (σ:=Nat×List Int) l.length (fun k s=>[(10,.s (.sl g.length s.1 0 s.2.length)),(20,fi k)]) (fun k s=>g++[.own s.1 3 1 (s.2.flatMap zR)]) (fun k s=>s.2.length=k∧zS t j p ((l.map (·.y)).take k)=some s.2) (0,[]) (by decide) rfl (by simp) (by simp) (by simp[zS]) ?_ ?_
  ·rintro q hq ⟨w,acc⟩ ⟨hlen,hacc⟩ hlt N hN;simp only at *;have hr2:RdX (g++[XO.own w 3 1 (acc.flatMap zR)]) 261 3 z1 v l:=hr.app;obtain⟨p1,cs,o,b1,b2,b3,b4,_⟩:=hr2.at zO (by decide) hq;simp[l272_0,hq,b1,b2,b3,b4,z1];refine zeH (fun _=>False) (by simp) ?_;simp;refine zb.pure (zli ..) ?_;rw[hy];simp[ztC];refine zb.go0 (zgS ht.app hl j (max l[q].y (p.tdiv 4)) p) ?_;have e1:(l.map (·.y)).take (q+1)=(l.map (·.y)).take q++[l[q].y]:=by rw[zu3 (by simpa using hq)];simp
   have e2:=zcc t j p _ l[q].y acc hacc;rw[←e1] at e2;rcases hr:jm t j (max l[q].y (p.tdiv 4)) p with _|r
   ·rw[hr] at e2;have e3:=zcb t j p _ ((l.map (·.y)).drop (q+1)) e2;rw[zvn] at e3;simp;exact Gh.pure (.t2 (.s (.lt (by simp))) .i) (hΨ _ _ ⟨by simp[Zs,hc,e3],rfl⟩)
   ·rw[hr] at e2;have hcl:(acc.flatMap zR).length=acc.length:=by rw[zf zG];omega
    simp[hr,hcl,show(acc.length+1)*8≤140737488355328 by omega,yB hq (by omega)];exact y7 (fun fr g'=>hN (w+1,acc++[r]) fr g' ⟨by simp[hlen],e2⟩) (by simp) (by simp) (by simpa using hlt) (by simp[lvO])
  ·rintro⟨w,acc⟩ ⟨hlen,hacc⟩;simp only at *;rw[zvG (by simp)] at hacc;simp[l272_0];exact Gh.pure (.t2 (.s (.fl (t:=3) zG (fun m a=>by simp) (zuQ _) (by simp))) .i) (hΨ _ _ ⟨by simp[Zs,hc,hacc],rfl⟩)
 ·simp;exact Gh.here (hΨ _ _ ⟨by simp[Zs,hc],rfl⟩)
theorem zeh:∀(l:List Bu) (s:List Int) (k:Nat) (h1:k<l.length) (h2:k<s.length),jw (l.take (k+1)) (s.take (k+1))=jw (l.take k) (s.take k)-zg l[k].n s[k]
 |[],_,k,h1,_=>by simp at h1
 |_::_,[],k,_,h2=>by simp at h2
 |b::l,r::s,0,_,_=>by simp[jw]
 |b::l,r::s,k+1,h1,h2=>by simp only[zu8,jw,zwj];rw[zeh l s k (by simpa using h1) (by simpa using h2)];omega
theorem ziw:∀(l:List Bu) (s:List Int),-(4000000000001*(l.length:Int))≤jw l s∧jw l s≤4000000000001*(l.length:Int)
 |[],_=>by simp[jw]
 |b::l,[]=>by simp[jw];omega
 |b::l,r::s=>by have h1:=ziw l s;have h2:=zF b.n r;simp only[jw,zvA,zwx,zw9];omega
def zdU:List Bu→List Int→Bool
 |b::l,r::s=>zn r&&za b.n&&zdU l s
 |_,_=>true
theorem zkT:∀(l:List Bu) (s:List Int) (k:Nat) (h1:k<l.length) (h2:k<s.length),zdU l s=true→zn s[k]=true∧za l[k].n=true
 |[],_,k,h1,_,_=>by simp at h1
 |_::_,[],k,_,h2,_=>by simp at h2
 |b::l,r::s,0,_,_,h=>by simp[zdU] at h;exact h.1
 |b::l,r::s,k+1,h1,h2,h=>by simp only[zdU,zuS] at h;exact zkT l s k (by simpa using h1) (by simpa using h2) h.2
theorem zdV:∀(l:List Bu) (s:List Int),(∀(k:Nat) (h1:k<l.length) (h2:k<s.length),zn s[k]=true∧za l[k].n=true)→zdU l s=true
 |[],_,_=>rfl
 |_::_,[],_=>rfl
 |b::l,r::s,h=>by have h0:=h 0 (by simp) (by simp);simp only[zdU,zuS];exact⟨h0,zdV l s fun k h1 h2=>h (k+1) (by simpa using h1) (by simpa using h2)⟩
def jQ(l:List Bu)(s:List Int):Int×Int:=if s.length≠l.length then(0,1) else if zdU l s then(if za (jw l s) then(jw l s,0) else(0,6)) else(0,1)
theorem tempX{g:XH}{v u:XV}{l:List Bu}{s:List Int}(hr:RdX g 261 3 z1 v l)(hs:RdX g 3 1 zR u s)(hl:l.length≤1000):
 Cl C (fun _=>False) 284 [.s v,.s u] g fun u g'=>u= .tup [fi (jQ l s).1,fi (jQ l s).2]∧g'=g:=by
 refine Cl.ip rfl (zuJ rfl) fun Ψ hΨ=> ?_;simp[hr.len,hs.len];refine zc (fun hc=> ?_) (fun hc=> ?_)
 ·simp at hc;replace hc:¬s.length=l.length:=by omega
  simp;exact Gh.here (hΨ _ _ ⟨by simp[jQ,hc],rfl⟩)
 simp at hc;replace hc:s.length=l.length:=by omega
 simp[hr.len,hs.len];have bad:∀J,zdU l s=false→Gh (fun _=>False) g Ψ (.tup [fi 0,fi 1]) (g++J):=fun J h=>Gh.pure (.t2 .i .i) (hΨ _ _ ⟨by simp[jQ,hc,h],rfl⟩);refine Lp.genU (σ:=Unit) l.length (fun k _=>[(6,fi (jw (l.take k) (s.take k))),(18,fi k)]) (fun _ _=>g) (fun k _=>∀(j:Nat),j<k→∀(h1:j<l.length) (h2:j<s.length),zn s[j]=true∧za l[j].n=true) () (by decide) rfl (by simp[jw]) rfl (by omega) ?_ ?_
 ·rintro q hq ⟨⟩ hP hlt N hN;obtain⟨p1,cs,o,b1,b2,b3,b4,b5,_⟩:=hr.atJ zO (by decide) hq;obtain⟨p2,cs2,o2,c1,c2,c3,c4⟩:=hs.at1 zG (k:=q) (by omega);have e1:=zeh l s q hq (by omega);have hb:=ziw (l.take q) (s.take q);have hb2:=zF l[q].n s[q];rw[zu6,zvD (by omega)] at hb;have hw:IntKind.i64.wrap (jw (l.take q) (s.take q)-zg l[q].n s[q])=jw (l.take (q+1)) (s.take (q+1)):=by rw[e1];exact ze (by omega) (by omega)
  have hno:∀b:Bool,(zn s[q]&&za l[q].n)=false→zdU l s=false:=fun _ h=>by
   cases h2:zdU l s with
   |false=>rfl
   |true=>
    have:=zkT l s q hq (by omega) h2;rw[this.1,this.2] at h;cases h
  simp[l284_0,hq,b1,b2,b3,b4,b5,c1,c2,c3,c4,z1,zR];refine zb.pure (Zc ..) ?_;simp;refine zc (fun h1=> ?_) (fun h1=> ?_)
  ·simp;refine zb.pure (z8 ..) ?_;simp;refine zc (fun h2=> ?_) (fun h2=> ?_)
   ·simp[c1,c2,c3,c4,zR];refine zb.pure (ofX ..) ?_;simp[hw,yB hq (by omega)]
    exact Qb () hN (fun j hj a b=>if e:j<q then hP j e a b else by obtain rfl:j=q:=by omega
                                                                   exact⟨h1,h2⟩) (by simp) (by simpa using hlt)
   ·simp;exact bad _ (hno true (by simp[h2]))
  ·simp;exact bad _ (hno true (by simp[h1]))
 ·rintro⟨⟩ hP;have hok:zdU l s=true:=zdV l s fun k h1 h2=>hP k h1 h1 h2;rw[zvd,zvG (by omega)];simp[l284_0];refine zb.pure (z8 ..) ?_;simp;refine zc (fun h1=> ?_) (fun h1=> ?_)
  ·simp;exact Gh.here (hΨ _ _ ⟨by simp[jQ,hc,hok,h1],rfl⟩)
  ·simp;exact Gh.here (hΨ _ _ ⟨by simp[jQ,hc,hok,h1],rfl⟩)
def jI(w:Wa):List XV:=[xi w.c,xi w.y,xi w.o,xi w.m,xi w.z]
theorem yl(b:Wa):(jI b).length=5:=rfl
theorem zfY(b:Wa)(m:Nat):zr m (jI b):=by simp[jI]
@[simp] theorem encW_lvs(m:Nat)(l:List Wa):zr m (l.flatMap jI):=zQ (fun a=>zfY a m) l
def qD(c y:Int)(b:Wa):Bool:=b.c==c&&b.y==y
theorem keyWP(x:Wa)(c y:Int){g:XH}{a b:Nat}(ha:g[a]? =some (.own 0 3 1 [xi c]))(hb:g[b]? =some (.own 0 3 1 [xi y])):Cl C (fun _=>False) 346 [.agg (jI x),.s (.ptr a 0 0),.s (.ptr b 0 0)] g fun u g'=>u=fb (qD c y x)∧g'=g:=by
 have la:=zd ha;have lb:=zd hb;refine Cl.ip rfl (zuJ rfl) fun Ψ hΨ=> ?_;simp[jI,ha,hb,la,lb]
 repeat' first|(refine zc (fun hc=> ?_) (fun hc=> ?_)<;>try simp[jI,ha,hb,la,lb])
 all_goals(refine Gh.pure (.s (.lt (by simp))) (hΨ _ _ ⟨?_,rfl⟩);simp at *;simp[qD, *])
def zhP(c y:Int):Wa:=⟨c,y,0,0,0⟩
def ZR(c y:Int)(f:Wa→Wa):List Wa→List Wa
 |[]=>[f (zhP c y)]
 |x::l=>if qD c y x then f x::l else x::ZR c y f l
theorem Y7(c y:Int)(f:Wa→Wa):∀(l:List Wa) (k:Nat),(ym (qD c y) k l= -1∧l.any (qD c y)=false∧ZR c y f l=l++[f (zhP c y)])∨∃i,ym (qD c y) k l=((k+i:Nat):Int)∧l.any (qD c y)=true∧∃h:i<l.length,ZR c y f l=l.set i (f l[i])
 |[],k=> .inl ⟨rfl,rfl,rfl⟩
 |x::l,k=>by
  unfold ym ZR;cases hk:qD c y x with
  |true=>exact .inr ⟨0,by simp,by simp[hk],by simp,by simp⟩
  |false=>
   rcases Y7 c y f l (k+1) with⟨h1,h2,h3⟩|⟨i,h1,h2,h3,h4⟩
   ·exact .inl ⟨by simpa using h1,by simp[hk,h2],by simp[h3]⟩
   ·exact .inr ⟨i+1,by simp only[zvg,if_false];rw[h1];congr 1;omega,by simp[hk,h2],by simpa using h3,by simp[h4]⟩
theorem zia(c y:Int)(f:Wa→Wa)(l:List Wa):(ZR c y f l).length≤l.length+1:=by rcases Y7 c y f l 0 with⟨_,_,h⟩|⟨i,_,_,_,h⟩<;>rw[h]<;>simp
theorem zoD{g:XH}{k w:Nat}{l:List Wa}(hk:g[k]? =some (.own w 244 5 (l.flatMap jI)))(hl:l.length≤1000)(c y:Int):Cl C (fun x=>x=k) 314 [.s (.sl k w 0 l.length),fi c,fi y] g fun u g'=>∃(w':Nat) (l':List Wa) (i:Nat),u= .tup [.s (.sl k w' 0 l'.length),fi (i:Nat)]∧g'=g.set k (.own w' 244 5 (l'.flatMap jI))∧l'.length≤l.length+1∧∃h:i<l'.length,∀f,ZR c y f l=l'.set i (f l'[i]):=by
 have lk:=zd hk;have hlen:(l.flatMap jI).length=l.length*5:=zf yl l;refine Cl.ip rfl (zuJ rfl) fun Ψ hΨ=> ?_;simp[hk,lk];refine zb.go0 (Ys (f:=345) rfl yl (by decide) (RdX.sl yl hk).app (by omega) (.inr ⟨g.length+2,346,[],[.s (.ptr g.length 0 0),.s (.ptr (g.length+1) 0 0)],rfl,by simp,fun x _=>keyWP x c y (by simp) (by simp)⟩)) ?_;have hp:=fun f=>Y7 c y f l 0;rcases Y7 c y id l 0 with⟨e1,e2,_⟩|⟨i,e1,e2,hi,_⟩
 ·have hput:∀f,ZR c y f l=(l++[zhP c y]).set l.length (f (zhP c y)):=fun f=>by
   rcases hp f with⟨_,_,h⟩|⟨_,_,h,_⟩
   ·rw[h,zvX _ _ (zuQ _),zvN];rfl
   ·rw[e2] at h;cases h
  simp[e1,hk,lk,hlen,show(l.length+1)*40≤140737488355328 by omega];refine qX (Upd.refl.set (S:=fun x=>x=k) rfl (by simp[lvO])) (by simp[lk]) (hΨ _ _ ⟨w+1,l++[zhP c y],l.length,by simp,by simp[zhP,jI],by simp,by simp,fun f=> ?_⟩);rw[hput f];simp
 ·have hput:∀f,ZR c y f l=l.set i (f l[i]):=fun f=>by
   rcases hp f with⟨h,_⟩|⟨j,h,_,h2,h3⟩
   ·rw[e1] at h;simp at h
   ·rw[e1] at h;obtain rfl:i=j:=by simp at h;omega
    exact h3
  rw[zvv] at e1;simp[e1,hk,lk];refine Gh.pure (.t2 (.s (.lt (by simp[lk]))) .i) (hΨ _ _ ⟨w,l,i,rfl,(yZ hk).symm,zxc _,hi,hput⟩)
def cW(b:Wa):List SV:=[.int .i64 b.c,.int .i64 b.y,.int .i64 b.o,.int .i64 b.m,.int .i64 b.z]
theorem zkk(l:List Wa):(l.flatMap cW).map XV.v=l.flatMap jI:=by rw[zxn];rfl
def ltW(a b:Wa):Bool:=decide (a.c<b.c)||(a.c==b.c&&decide (a.y<b.y))
theorem ltK_W(a b:Wa):ltK [0,1] (cW a) (cW b)=ltW a b:=by simp[ltK,cW,ltW]
theorem zjS{g:XH}{k w:Nat}{l:List Wa}(hk:g[k]? =some (.own w 244 5 (l.flatMap jI)))(hd:jF ltW l=true)(hlm:l.length<4611686018427387904):Cl C (fun x=>x=k) 315 [.s (.sl k w 0 l.length)] g fun u g'=>u= .s (.sl k w 0 l.length)∧g'=g.set k (.own w 244 5 ((zu ltW l).flatMap jI)):=by have lk:=zd hk;refine Cl.ip rfl (zuJ rfl) fun Ψ hΨ=> ?_;simp;refine zb.go (za6 (o:=0) (enc:=cW) (lta:=ltW) rfl (fun _=>rfl) (by decide) (fun a v hv=>by simp[cW] at hv;rcases hv with rfl|rfl|rfl|rfl|rfl<;>rfl) (fun _=>rfl) ltK_W (l:=l) (cs:=l.flatMap jI) (w:=w) (k:=k) hk (by rw[zvv,zf yl];exact zuQ _) (by rw[zv4,zve,←zf yl,zvd,zkk]) hd hlm) (fun x hx e=> .inr e) ?_;rintro u g' ⟨rfl,rfl⟩;rw[zkk,zv4,ZV (by rw[zf yl,zf yl,zJ])];simp;exact Gh.here (hΨ _ _ ⟨rfl,rfl⟩)
def qu(l:List Wa)(b:Bu):List Wa:=ZR b.c b.y (fun w=>{w with o:=b.n}) l
def qK(l:List Wa)(b:Bu):List Wa:=ZR b.c b.y (fun w=>{w with z:=b.n}) l
def Jx(w:Wa):Wa:={w with m:=wr (w.z-w.o)}
def zw(o c:List Bu):List Wa:=zu ltW ((c.foldl qK (o.foldl qu [])).map Jx)
def zc5(a b:Wa):Prop:=¬(a.c=b.c∧a.y=b.y)
def Ju(l:List Wa):Prop:=l.Pairwise zc5
theorem zda:∀{l:List Wa},Ju l→jF ltW l=true
 |[],_=>rfl
 |x::l,h=>by obtain⟨h1,h2⟩:=zvh.1 h;simp only[jF,zuS,zva];refine⟨fun y hy=> ?_,zda h2⟩;have:=h1 y hy;unfold zc5 at this;simp[ltW];omega
theorem zib{c y:Int}{f:Wa→Wa}(hf:∀w,(f w).c=w.c∧(f w).y=w.y):∀{l:List Wa} {x:Wa},x∈ZR c y f l→(x.c=c∧x.y=y)∨∃z∈l,x.c=z.c∧x.y=z.y
 |[],x,h=>by
  simp[ZR] at h;subst h;exact .inl (hf _)
 |z::l,x,h=>by
  unfold ZR at h;split at h
  ·rcases zu4.1 h with rfl|h
   ·exact .inr ⟨z,by simp,hf z⟩
   ·exact .inr ⟨x,by simp[h],rfl,rfl⟩
  ·rcases zu4.1 h with rfl|h
   ·exact .inr ⟨x,by simp,rfl,rfl⟩
   ·rcases zib hf h with h|⟨z',h1,h2⟩
    ·exact .inl h
    ·exact .inr ⟨z',by simp[h1],h2⟩
theorem QH{c y:Int}{f:Wa→Wa}(hf:∀w,(f w).c=w.c∧(f w).y=w.y):∀{l:List Wa},Ju l→Ju (ZR c y f l)
 |[],_=>by simp[ZR,Ju]
 |z::l,h=>by
  obtain⟨h1,h2⟩:=zvh.1 h;unfold ZR;split
  ·refine zvh.2 ⟨fun a ha=> ?_,h2⟩;have:=h1 a ha;unfold zc5 at this⊢;rw[(hf z).1,(hf z).2];exact this
  ·rename_i hk;refine zvh.2 ⟨fun a ha=> ?_,QH hf h2⟩;rcases zib hf ha with⟨e1,e2⟩|⟨z',hz,e1,e2⟩
   ·unfold zc5;rw[e1,e2];simp[qD] at hk;omega
   ·have:=h1 z' hz;unfold zc5 at this⊢;rw[e1,e2];exact this
theorem zac:∀(b:List Bu) (l:List Wa),Ju l→Ju (b.foldl qu l)
 |[],_,h=>h
 |x::b,l,h=>zac b (qu l x) (QH (f:=fun w=>{w with o:=x.n}) (fun _=>⟨rfl,rfl⟩) h)
theorem zdr:∀(b:List Bu) (l:List Wa),Ju l→Ju (b.foldl qK l)
 |[],_,h=>h
 |x::b,l,h=>zdr b (qK l x) (QH (f:=fun w=>{w with z:=x.n}) (fun _=>⟨rfl,rfl⟩) h)
theorem zaH(o c:List Bu):jF ltW ((c.foldl qK (o.foldl qu [])).map Jx)=true:=by refine zda (zwY.2 ?_);exact(zdr c _ (zac o [] List.Pairwise.nil)).imp fun h=>h
theorem zbp{α β:Type}(f:β→α→β)(s:β)(l:List α){k:Nat}(hk:k<l.length):(l.take (k+1)).foldl f s=f ((l.take k).foldl f s) l[k]:=by rw[zu3 hk,List.foldl_append];rfl
theorem zn2{α:Type}(f:α→α){l:List α}{k:Nat}(hk:k<l.length):((l.take k).map f++l.drop k).length=l.length∧(∀h,((l.take k).map f++l.drop k)[k]'h=l[k])∧(l.take (k+1)).map f++l.drop (k+1)=((l.take k).map f++l.drop k).set k (f l[k]):=by
 have hl:((l.take k).map f).length=k:=by simp;omega
 refine⟨by simp;omega,fun h=> ?_,?_⟩
 ·have e:((l.take k).map f++l.drop k)[k]? =l[k]? :=by rw[zuP (by omega),hl,zvN,zvR,zwe]
  rw[zuY h,zuY hk] at e;exact zuK e
 ·rw[zu3 hk,zvs,zvX _ _ (by omega),hl,zvN,zvt hk,zu9];rfl
theorem YH:∀(b:List Bu) (l:List Wa),(b.foldl qu l).length≤l.length+b.length
 |[],l=>by simp
 |x::b,l=>by have h1:=YH b (qu l x);have h2:=zia x.c x.y (fun w=>{w with o:=x.n}) l;simp only[zwD,zvA];unfold qu at h1⊢;omega
theorem YI:∀(b:List Bu) (l:List Wa),(b.foldl qK l).length≤l.length+b.length
 |[],l=>by simp
 |x::b,l=>by have h1:=YI b (qK l x);have h2:=zia x.c x.y (fun w=>{w with z:=x.n}) l;simp only[zwD,zvA];unfold qK at h1⊢;omega
abbrev zhH(l:List Wa):XV:= .lst 244 5 l.length (l.flatMap jI)
theorem Qg{g:XH}{u v:XV}{o c:List Bu}(hu:RdX g 261 3 z1 u o)(hv:RdX g 261 3 z1 v c)(ho:o.length≤400)(hc:c.length≤400):
 Cl C (fun _=>False) 275 [.s u,.s v] g fun u g'=>u= .s (zhH (zw o c))∧g'=g:=by
 refine Cl.ip rfl (zuJ rfl) fun Ψ hΨ=> ?_;simp[hu.len];refine Lp.genG 244 5 (σ:=Nat×List Wa) o.length (fun k s=>[(5,.s (.sl g.length s.1 0 s.2.length)),(14,fi k)]) (fun k s=>g++[.own s.1 244 5 (s.2.flatMap jI)]) (fun k s=>s.2=(o.take k).foldl qu []) (0,[]) (by decide) rfl (by simp[GhF]) (by simp) (by simp) ?_ ?_
 ·rintro q hq ⟨w,L⟩ hP hlt N hN;simp only at *;subst hP;have hLl:=YH (o.take q) [];rw[zu6,zwb] at hLl;have hs:=zbp qu [] o hq;generalize(o.take q).foldl qu []=L at *;obtain⟨p,cs,o',b1,b2,b3,b4,b5,_⟩:=hu.atJ zO (by decide) hq;simp[l275_0,hq,b3,b4,b5,z1];refine zb.go (zoD (k:=g.length) (w:=w) (l:=L) (by simp) (by omega) o[q].c o[q].y) (fun x hx e=> .inl (by omega)) ?_;rintro u g' ⟨w',l',i,rfl,rfl,hl',hi,hput⟩;have e1:=hput fun w=>{w with o:=o[q].n}
  have h1:=jT yl (l:=l') (k:=i) hi (c:=2) (by decide) (v:=xi o[q].n) (x:={l'[i] with o:=o[q].n}) rfl [];simp only[zvl] at h1;have h2:=zf yl l';have h3:i*5+2+1≤(l'.flatMap jI).length:=by omega
  have h4:¬l'.flatMap jI=[]:=fun e=>by rw[e] at h2;simp at h2;omega
  rw[←e1] at h1;have e2:(ZR o[q].c o[q].y (fun w=>{w with o:=o[q].n}) L).length=l'.length:=by rw[e1,zvw]
  simp[hi,h1,h3,h4,yB hq (by omega)];exact y7 (fun fr g'=>hN (w',qu L o[q]) fr g' hs.symm) rfl (by simp[qu,e2]) (by simpa using hlt) (by simp[lvO])
 ·rintro⟨w,L⟩ hP;simp only[zvd] at *;subst hP;have hLl:=YH o [];rw[zwb] at hLl;have hdist:=zaH o c;have hfw:zw o c=zu ltW ((c.foldl qK (o.foldl qu [])).map Jx):=rfl;generalize o.foldl qu []=L0 at *;have hvl:∀J,Jb (g++J) (.s v)=some c.length:=fun J=>hv.app.len;simp[l275_0,hvl];refine Lp.genU (σ:=Nat×List Wa) c.length (fun k s=>[(5,.s (.sl g.length s.1 0 s.2.length)),(36,fi k)]) (fun k s=>g++[.own s.1 244 5 (s.2.flatMap jI)]) (fun k s=>s.2=(c.take k).foldl qK L0) (w,L0) (by decide) rfl (by simp) rfl (by simp) ?_ ?_
  ·rintro q hq ⟨w,L⟩ hP hlt N hN;simp only at *;subst hP;have hLl2:=YI (c.take q) L0;rw[zu6] at hLl2;have hs:=zbp qK L0 c hq;generalize(c.take q).foldl qK L0=L at *;obtain⟨p,cs,o',b1,b2,b3,b4,b5,_⟩:=hv.atJ zO (by decide) hq;simp[l275_1,hq,b3,b4,b5,z1];refine zb.go (zoD (k:=g.length) (w:=w) (l:=L) (by simp) (by omega) c[q].c c[q].y) (fun x hx e=> .inl (by omega)) ?_;rintro u g' ⟨w',l',i,rfl,rfl,hl',hi,hput⟩;have e1:=hput fun w=>{w with z:=c[q].n}
   have h1:=jT yl (l:=l') (k:=i) hi (c:=4) (by decide) (v:=xi c[q].n) (x:={l'[i] with z:=c[q].n}) rfl [];simp only[zvl] at h1;have h2:=zf yl l';have h3:i*5+4+1≤(l'.flatMap jI).length:=by omega
   have h4:¬l'.flatMap jI=[]:=fun e=>by rw[e] at h2;simp at h2;omega
   rw[←e1] at h1;have e2:(ZR c[q].c c[q].y (fun w=>{w with z:=c[q].n}) L).length=l'.length:=by rw[e1,zvw]
   simp[hi,h1,h3,h4,yB hq (by omega)];exact y7 (fun fr g'=>hN (w',qK L c[q]) fr g' hs.symm) rfl (by simp[qK,e2]) (by simpa using hlt) (by simp[lvO])
  ·rintro⟨w,L⟩ hP;simp only[zvd] at *;subst hP;have hLl2:=YI c L0;generalize c.foldl qK L0=L at *;simp[l275_1];refine Lp.genU (σ:=Unit) L.length (fun k _=>[(58,fi k)]) (fun k _=>g++[.own w 244 5 (((L.take k).map Jx++L.drop k).flatMap jI)]) (fun _ _=>True) () (by decide) rfl (by simp) (by simp) trivial ?_ ?_
   ·rintro q hq ⟨⟩ _ hlt N hN;obtain⟨m1,m2,m3⟩:=zn2 Jx hq;rw[m3] at hN;generalize(L.take q).map Jx++L.drop q=M at *;have hqM:q<M.length:=by omega
    have m2:=m2 hqM;obtain⟨a1,a2,a3⟩:=atX yl (l:=M) (k:=q) hqM;have a4:=a3 4 (by decide);have a5:=a3 2 (by decide);have h1:=jT yl (l:=M) (k:=q) hqM (c:=3) (by decide) (v:=xi (wr (L[q].z-L[q].o))) (x:=Jx L[q]) (by rw[m2];rfl) [];simp only[zvl] at h1;rw[m2] at a4 a5;simp[jI] at a4 a5;have h3:q*5+3+1≤(M.flatMap jI).length:=by omega
    have h4:¬M.flatMap jI=[]:=fun e=>by rw[e] at a1;simp at a1
    simp[l275_2,hq,a4,a5,h1,h3,h4,yB hq (by omega)];exact y7 (fun fr g'=>hN () fr g' trivial) rfl (by simp) (by simp) (by simp[lvO])
   ·rintro⟨⟩ _;rw[zvd,zx2,zvl];simp[l275_2];have hS:=zjS (g:=g++[.own w 244 5 ((L.map Jx).flatMap jI)]) (k:=g.length) (w:=w) (l:=L.map Jx) (by simp) hdist (by first|omega|(simp;omega));rw[zvc] at hS;refine zb.go hS (fun x hx e=> .inl (by omega)) ?_;rintro u g' ⟨rfl,rfl⟩;rw[←hfw];have hfl:(zw o c).length=L.length:=by rw[hfw,zJ,zvc]
    rw[←hfl];simp;exact Gh.pure (.s (.fl (t:=244) yl (fun m a=>zfY a m) (zuQ _) (by simp))) (hΨ _ _ ⟨rfl,rfl⟩)
theorem zb8:∀(l:List Wa) (s:List Int) (k:Nat) (h1:k<l.length) (h2:k<s.length),yC (l.take (k+1)) (s.take (k+1))=yC (l.take k) (s.take k)+(zg l[k].z s[k]-zg l[k].o s[k])
 |[],_,k,h1,_=>by simp at h1
 |_::_,[],k,_,h2=>by simp at h2
 |b::l,r::s,0,_,_=>by simp[yC]
 |b::l,r::s,k+1,h1,h2=>by simp only[zu8,yC,zwj];rw[zb8 l s k (by simpa using h1) (by simpa using h2)];omega
theorem zeZ:∀(l:List Wa) (s:List Int),-(8000000000002*(l.length:Int))≤yC l s∧yC l s≤8000000000002*(l.length:Int)
 |[],_=>by simp[yC]
 |b::l,[]=>by simp[yC];omega
 |b::l,r::s=>by have h1:=zeZ l s;have h2:=zF b.z r;have h3:=zF b.o r;simp only[yC,zvA,zwx,zw9];omega
theorem zcd:∀(l:List Wa) (s t:List Int) (k:Nat) (h1:k<l.length) (h2:k<s.length) (h3:k<t.length),yy (l.take (k+1)) (s.take (k+1)) (t.take (k+1))=yy (l.take k) (s.take k) (t.take k)+(zg l[k].o t[k]-zg l[k].o s[k])
 |[],_,_,k,h1,_,_=>by simp at h1
 |_::_,[],_,k,_,h2,_=>by simp at h2
 |_::_,_::_,[],k,_,_,h2=>by simp at h2
 |b::l,r::s,u::t,0,_,_,_=>by simp[yy]
 |b::l,r::s,u::t,k+1,h1,h2,h3=>by simp only[zu8,yy,zwj];rw[zcd l s t k (by simpa using h1) (by simpa using h2) (by simpa using h3)];omega
theorem zfi:∀(l:List Wa) (s t:List Int),-(8000000000002*(l.length:Int))≤yy l s t∧yy l s t≤8000000000002*(l.length:Int)
 |[],_,_=>by simp[yy]
 |b::l,[],_=>by simp[yy];omega
 |b::l,_::_,[]=>by simp[yy];omega
 |b::l,r::s,u::t=>by have h1:=zfi l s t;have h2:=zF b.o u;have h3:=zF b.o r;simp only[yy,zvA,zwx,zw9];omega
def okCh(l:List Wa)(s t:List Int):Prop:=∀(k:Nat) (h1:k<l.length) (h2:k<s.length) (h3:k<t.length),zn s[k]=true∧zn t[k]=true∧za l[k].o=true∧za l[k].z=true
open Classical in
noncomputable def JQ(l:List Wa)(s t:List Int):Int×Int×Int:=if s.length≠l.length∨t.length≠l.length then(0,0,1) else if okCh l s t then(if za (yC l t)=true∧za (yy l s t)=true then(yC l t,yy l s t,0) else(0,0,6)) else(0,0,1)
theorem zrk{g:XH}{u v x y:XV}{o c:List Bu}{s t:List Int}(hu:RdX g 261 3 z1 u o)(hv:RdX g 261 3 z1 v c)(hx:RdX g 3 1 zR x s)(hy:RdX g 3 1 zR y t)(ho:o.length≤400)(hc:c.length≤400):
 Cl C (fun _=>False) 289 [.s u,.s v,.s x,.s y] g fun u g'=>u= .tup [.agg [xi (JQ (zw o c) s t).1,xi (JQ (zw o c) s t).2.1],fi (JQ (zw o c) s t).2.2]∧g'=g:=by
 refine Cl.ip rfl (zuJ rfl) fun Ψ hΨ=> ?_;simp;refine zb.go0 (Qg hu.app hv.app ho hc) ?_;have hfl:(zw o c).length≤800:=by have h1:=YH o [];have h2:=YI c (o.foldl qu []);simp only[zwb] at h1;unfold zw;rw[zJ,zvc];omega
 generalize zw o c=l at *;have hxl:∀J,Jb (g++J) (.s x)=some s.length:=fun J=>hx.app.len;have hyl:∀J,Jb (g++J) (.s y)=some t.length:=fun J=>hy.app.len;have bad:∀(n:Int) J,JQ l s t=(0,0,n)→Gh (fun _=>False) g Ψ (.tup [.agg [xi 0,xi 0],fi n]) (g++J):=fun n J h=>Gh.pure (.t2 (.agg (.lts (by simp))) .i) (hΨ _ _ ⟨by rw[h],rfl⟩);simp[hxl,hyl];refine zc (fun h1=> ?_) (fun h1=> ?_)
 ·simp at h1⊢;exact bad 1 _ (by unfold JQ;rw[zuT (.inl (by omega))])
 simp[hxl,hyl];refine zc (fun h2=> ?_) (fun h2=> ?_)
 ·simp at h2⊢;exact bad 1 _ (by unfold JQ;rw[zuT (.inr (by omega))])
 simp at h1 h2;replace h1:s.length=l.length:=by omega
 replace h2:t.length=l.length:=by omega
 simp;refine Lp.genU (σ:=Unit) l.length (fun k _=>[(39,fi k)]) (fun k _=>g++[.own 0 82 2 [xi 0,xi 0],.own 0 82 2 [xi (yC (l.take k) (t.take k)),xi (yy (l.take k) (s.take k) (t.take k))]]) (fun k _=>∀(j:Nat),j<k→∀(h1:j<l.length) (h2:j<s.length) (h3:j<t.length),zn s[j]=true∧zn t[j]=true∧za l[j].o=true∧za l[j].z=true) () (by decide) rfl (by simp) (by simp[yC,yy]) (by omega) ?_ ?_
 ·rintro q hq ⟨⟩ hP hlt N hN;obtain⟨p1,cs1,o1,_,_,c3,c4⟩:=hx.at1 zG (k:=q) (by omega);obtain⟨p2,cs2,o2,_,_,d3,d4⟩:=hy.at1 zG (k:=q) (by omega);obtain⟨a1,a2,a3⟩:=atX yl hq;have e1:=zb8 l t q hq (by omega);have e2:=zcd l s t q hq (by omega) (by omega);have hb:=zeZ (l.take q) (t.take q);have hb2:=zfi (l.take q) (s.take q) (t.take q);have hb3:=zF l[q].z t[q];have hb4:=zF l[q].o t[q];have hb5:=zF l[q].o s[q];rw[zu6,zvD (by omega)] at hb hb2;have w1:IntKind.i64.wrap (yC (l.take q) (t.take q)+zg l[q].z t[q])=yC (l.take q) (t.take q)+zg l[q].z t[q]:=ze (by omega) (by omega);have w2:IntKind.i64.wrap (yC (l.take q) (t.take q)+zg l[q].z t[q]-zg l[q].o t[q])=yC (l.take (q+1)) (t.take (q+1)):=by rw[e1,ze (by omega) (by omega)];omega
  have w3:IntKind.i64.wrap (yy (l.take q) (s.take q) (t.take q)+zg l[q].o t[q])=yy (l.take q) (s.take q) (t.take q)+zg l[q].o t[q]:=ze (by omega) (by omega);have w4:IntKind.i64.wrap (yy (l.take q) (s.take q) (t.take q)+zg l[q].o t[q]-zg l[q].o s[q])=yy (l.take (q+1)) (s.take (q+1)) (t.take (q+1)):=by rw[e2,ze (by omega) (by omega)];omega
  have hno:(zn s[q]&&zn t[q]&&za l[q].o&&za l[q].z)=false→JQ l s t=(0,0,1):=fun h=>by unfold JQ;rw[zuV (by omega),zuV];intro hk;have:=hk q hq (by omega) (by omega);simp[this] at h
  simp[l289_0,hq,a1,a2,jI,zR,c3,c4];refine zb.pure (Zc ..) ?_;simp;refine zc (fun k1=> ?_) (fun k1=> ?_)
  rotate_left
  ·simp;exact bad 1 _ (hno (by simp[k1]))
  simp[d3,d4,zR];refine zb.pure (Zc ..) ?_;simp;refine zc (fun k2=> ?_) (fun k2=> ?_)
  rotate_left
  ·simp;exact bad 1 _ (hno (by simp[k2]))
  simp;refine zb.pure (z8 ..) ?_;simp;refine zc (fun k3=> ?_) (fun k3=> ?_)
  rotate_left
  ·simp;exact bad 1 _ (hno (by simp[k3]))
  simp;refine zb.pure (z8 ..) ?_;simp;refine zc (fun k4=> ?_) (fun k4=> ?_)
  rotate_left
  ·simp;exact bad 1 _ (hno (by simp[k4]))
  simp[c3,c4,zR];refine zb.pure (ofX ..) ?_;simp[d3,d4,zR];refine zb.pure (ofX ..) ?_;simp[d3,d4,zR];refine zb.pure (ofX ..) ?_;simp[w1,w2,w3,w4,yB hq (by omega)];exact zjB (fun fr g'=>hN () fr g' (fun j hj a b d=>if e:j<q then hP j e a b d else by
   obtain rfl:j=q:=by omega
   exact⟨k1,k2,k3,k4⟩)) rfl rfl (by simp) (by simpa using hlt) (by simp[lvO]) (by simp[lvO])
 ·rintro⟨⟩ hP;have hok:okCh l s t:=fun k h1 h2 h3=>hP k h1 h1 h2 h3;rw[zvd,zvG (by omega),zvG (by omega)];have e0:JQ l s t=if za (yC l t)=true∧za (yy l s t)=true then(yC l t,yy l s t,0) else(0,0,6):=by
   unfold JQ;rw[zuV (by omega),zuT hok]
  simp[l289_0];refine zb.pure (z8 ..) ?_;simp;refine zc (fun k1=> ?_) (fun k1=> ?_)
  rotate_left
  ·simp;exact bad 6 _ (by rw[e0,zuV (by simp[k1])])
  simp;refine zb.pure (z8 ..) ?_;simp;refine zc (fun k2=> ?_) (fun k2=> ?_)
  rotate_left
  ·simp;exact bad 6 _ (by rw[e0,zuV (by simp[k2])])
  simp;rw[zuT ⟨k1,k2⟩] at e0;exact Gh.pure (.t2 (.agg (.lts (by simp))) .i) (hΨ _ _ ⟨by rw[e0],rfl⟩)
abbrev zhG(l:List Bu):XV:= .lst 261 3 l.length (l.flatMap z1)
def zP(i:Inp):List XV:=[xs i.j,xi i.p,xi i.book,xi i.perm,xi i.judge,xi i.cap,xi i.life,xi i.up]
def zi(b:Bal):List XV:=[xi b.p,zhG b.b,Yv b.r,xi b.next,xi b.left,xi b.temp,xi b.loss,xi b.allow]
abbrev pC(i:Inp)(r:XV)(o c u m:List XV):List XV:=zP i++r::(o++(c++(u++m)))
def zC(p:Pro):List XV:=pC p.inp (xi p.rate) (zi p.op) (zi p.cl) (zD p.cur) [zhH p.rows,Yv p.now,xi p.tm,xi p.tr,xi p.lm,xi p.lr,xi p.am,xi p.deferred,xi p.total]
theorem len7{α:Type}{l:List α}(h:l.length=7):∃a b c d e f i,l=[a,b,c,d,e,f,i]:=by
 match l,h with
 |[a,b,c,d,e,f,i],_=>exact⟨_,_,_,_,_,_,_,rfl⟩
theorem len8{α:Type}{l:List α}(h:l.length=8):∃a b c d e f i j,l=[a,b,c,d,e,f,i,j]:=by
 match l,h with
 |[a,b,c,d,e,f,i,j],_=>exact⟨_,_,_,_,_,_,_,_,rfl⟩
theorem len9{α:Type}{l:List α}(h:l.length=9):∃a b c d e f i j k,l=[a,b,c,d,e,f,i,j,k]:=by
 match l,h with
 |[a,b,c,d,e,f,i,j,k],_=>exact⟨_,_,_,_,_,_,_,_,_,rfl⟩
theorem zfK{α:Type}{enc:α→List XV}{t z y f:Nat}{zs:List SV}(hf:C f=some (zlz t z y zs))(hzs:zs.length=z)(hnl:zs.all nlS=true)(he:∀a,(enc a).length=z)(hz:z≠0){g:XH}{v:XV}{l:List α}(r:RdX g t z enc v l)(hlv:∀m a,zr m (enc a))(hy:l.length*y≤140737488355328):
 Cl C (fun _=>False) f [.s v] g fun u g'=>u= .s (.lst t z l.length (l.flatMap enc))∧g'=g:=
 Fresh.frz (Y2 hf hzs hnl he hz r (hlv _) hy) (zQ (hlv _) l) (by rw[zf he])
theorem zfL{g:XH}{v:XV}{l:List Int}(r:RdX g 3 1 zR v l)(hl:l.length≤1000000):Cl C (fun _=>False) 158 [.s v] g fun u g'=>u= .s (Yv l)∧g'=g:=
 zfK (z:=1) rfl rfl rfl zG (by decide) r (fun m a=>by simp[zR]) (by omega)
theorem znh{g:XH}{v:XV}{l:List Bu}(r:RdX g 261 3 z1 v l)(hl:l.length≤1000000):Cl C (fun _=>False) 171 [.s v] g fun u g'=>u= .s (zhG l)∧g'=g:=
 zfK (z:=3) rfl rfl rfl zO (by decide) r (fun m a=>zaB a m) (by omega)
theorem zsZ{g:XH}{v:XV}{l:List Wa}(r:RdX g 244 5 jI v l)(hl:l.length≤1000000):Cl C (fun _=>False) 159 [.s v] g fun u g'=>u= .s (zhH l)∧g'=g:=
 zfK (z:=5) rfl rfl rfl yl (by decide) r (fun m a=>zfY a m) (by omega)
@[simp] theorem Qw(m:Nat)(b:Bal):zr m (zi b):=by simp[zi]
@[simp] theorem zuD(m:Nat)(b:Res):zr m (zD b):=by simp[zD]
@[simp] theorem zuC(m:Nat)(b:Inp):zr m (zP b):=by simp[zP]
@[simp] theorem Qy(m:Nat)(b:Pro):zr m (zC b):=by simp[zC]
structure BalL(b:Bal):Prop where
 lb:b.b.length≤400
 lr:b.r.length≤400
theorem zsN{g:XH}{b:Bal}(h:BalL b):Cl C (fun _=>False) 216 [.agg (zi b)] g fun u g'=>u= .agg (zi b)∧g'=g:=by have h1:=h.lb;have h2:=h.lr;refine Cl.ip rfl (zuJ rfl) fun Ψ hΨ=> ?_;simp[zi];refine zy 5 [1] (fun _=>False) (by decide) (by decide) ?_;simp only[zu8,zvE,zvj,zve];simp;refine zb.go0 (znh (RdX.lst _ b.b) (by omega)) ?_;simp;refine zb.go0 (zfL (RdX.lst _ b.r) (by omega)) ?_;simp;exact Gh.pure (u':= .agg (zi b)) (.agg (.lts (Qw _ b))) (hΨ _ _ ⟨rfl,rfl⟩)
theorem zp6{g:XH}:Cl C (fun _=>False) 226 [] g fun u g'=>u= .agg (zi yX)∧g'=g:=by refine Cl.ip rfl (zuJ rfl) fun Ψ hΨ=> ?_;simp;exact Gh.pure (u':= .agg (zi yX)) (.agg (.cons (.lt (by simp)) (.cons .nil (.cons .nil (.lts (by simp)))))) (hΨ _ _ ⟨rfl,rfl⟩)
theorem Cl.lv{W:Nat→Prop}{f:Nat}{args:List XF}{g:XH}{Ψ:XF→XH→Prop}(h:(∀(i:Nat) (o:XO),g[i]? =some o→lvO g.length o)→Cl C W f args g Ψ):Cl C W f args g Ψ:=by rintro R args1 rfl H ra;exact h (fun i o e=>(H.ob i o e).lt) R args1 rfl H ra
theorem Y8{W:Nat→Prop}{g J:XH}{i:Nat}{o:XO}{Ψ:XF→XH→Prop}{u:XF}(hA:lvO g.length o)(hu:lvF g.length u)(h:Ψ u (g.set i o)):Gh W g Ψ u (g.set i o++J):=
 Gh.fz (FzH.refl.set i hA) (.lt hu) h
theorem zgb{W:Nat→Prop}{g:XH}{i:Nat}{o:XO}{Ψ:XF→XH→Prop}{u:XF}(hA:lvO g.length o)(hu:lvF g.length u)(h:Ψ u (g.set i o)):Gh W g Ψ u (g.set i o):=by
 have:=Y8 (W:=W) (J:=[]) (i:=i) hA hu h
 rwa [zvl] at this
abbrev TP:Nat:=84
def ProP(g:XH)(i:Nat)(inp:Inp)(r:XV)(o c u m:List XV):Prop:=g[i]? =some (.own 0 84 41 (pC inp r o c u m))∧o.length=8∧c.length=8∧u.length=7∧m.length=9
def zqI(t:List Rw)(inp:Inp)(rows:List Bu)(r next:Int)(rates:List Int):Prop:=jm t inp.j (inp.p.tdiv 4) inp.p=some r∧yR t inp.j inp.p=(next,0)∧zS t inp.j inp.p (rows.map (·.y))=some rates
theorem zos{g:XH}{i:Nat}{inp:Inp}{r:XV}{o c u m:List XV}(hP:ProP g i inp r o c u m){a b:Nat}{t:List Rw}(ht:qO 145 140 g a b t)(hl:t.length≤1000){rows:List Bu}(hr:rows.length≤1000)(hp:zl inp.p=true):
 Cl C (fun x=>x=i) 217 [.s (.ptr i 0 0),.s (.ptr a 0 0),.s (zhG rows)] g fun v g'=>(∃r next rates,zqI t inp rows r next rates∧v=fi 0∧g'=g.set i (.own 0 84 41 (pC inp (xi r) o (zi ⟨inp.p,rows,rates,next,0,0,0,0⟩) u m)))∨(g'=g∧v=fi 7∧(jm t inp.j (inp.p.tdiv 4) inp.p=none∨(yR t inp.j inp.p).2≠0∨zS t inp.j inp.p (rows.map (·.y))=none)):=by
 obtain⟨hi,ho,hc,hu,hm⟩:=hP;obtain⟨o0,o1,o2,o3,o4,o5,o6,o7,rfl⟩:=len8 ho;obtain⟨c0,c1,c2,c3,c4,c5,c6,c7,rfl⟩:=len8 hc;obtain⟨u0,u1,u2,u3,u4,u5,u6,rfl⟩:=len7 hu;obtain⟨m0,m1,m2,m3,m4,m5,m6,m7,m8,rfl⟩:=len9 hm;have li:=zd hi;have hy:Yo inp.p=inp.p.tdiv 4:=by unfold Yo;rw[zuT hp]
 refine Cl.lv fun hG=> ?_;have hlv:=hG i _ hi;simp[lvO,pC,zP] at hlv;refine Cl.ip rfl (zuJ rfl) fun Ψ hΨ=> ?_;simp[pC,zP] at hi;simp[hi,li];refine zeH (fun _=>False) (by simp) ?_;simp;refine zb.pure (zli ..) ?_;rw[hy];simp;refine zb.go0 (zgS ht.app hl inp.j (inp.p.tdiv 4) inp.p) ?_;rcases h1:jm t inp.j (inp.p.tdiv 4) inp.p with _|r1
 ·simp;exact Gh.pure .i (hΨ _ _ (.inr ⟨rfl,rfl,.inl h1⟩))
 simp;refine zb.go0 (zhR ht.app hl inp.j inp.p) ?_;simp;refine zc (fun h2=> ?_) (fun h2=> ?_)
 ·simp at h2;have h3:(yR t inp.j inp.p).2=7:=by
   unfold yR at h2⊢;rw[zuT hp] at h2⊢;split at h2
   ·exact absurd rfl h2
   ·rfl
  simp;rw[h3];exact Gh.pure .i (hΨ _ _ (.inr ⟨rfl,rfl,.inr (.inl (by rw[h3];decide))⟩))
 simp at h2;have e2:yR t inp.j inp.p=((yR t inp.j inp.p).1,0):=by rw[←h2]
 simp;refine zb.go0 (zox ht.app hl inp.j inp.p (RdX.lst _ rows) hr) ?_;rcases h3:zS t inp.j inp.p (rows.map (·.y)) with _|rates
 ·rw[show Zs t inp.j inp.p (rows.map (·.y))= .tup [.s (.v .nils),fi 7] by simp[Zs,hp,h3]];simp;exact Gh.pure .i (hΨ _ _ (.inr ⟨rfl,rfl,.inr (.inr h3)⟩))
 rw[show Zs t inp.j inp.p (rows.map (·.y))= .tup [.s (Yv rates),fi 0] by simp[Zs,hp,h3]];simp;refine zy 12 [7] (fun x=>x=i) (by decide) (by decide) ?_;simp only[zu8,zvE,zvj,zve];simp[hi,li];exact⟨by omega,Y8 (by simp[lvO,hlv]) (by simp) (hΨ _ _ (.inl ⟨r1,_,rates,⟨h1,e2,h3⟩,rfl,rfl⟩))⟩
def zbd(rows:List Bu)(rates:List Int)(next left judge tm ls al:Int):Prop:=jQ rows rates=(tm,0)∧zm left next=(ls,0)∧jZ ls judge=(al,0)
theorem ztY{g:XH}{i:Nat}{inp:Inp}{r:XV}{o u m:List XV}{p next left:Int}{rows:List Bu}{rates:List Int}(hP:ProP g i inp r o (zi ⟨p,rows,rates,next,left,0,0,0⟩) u m)(hr:rows.length≤1000):
 Cl C (fun x=>x=i) 222 [.s (.ptr i 0 0)] g fun v g'=>(∃tm ls al,zbd rows rates next left inp.judge tm ls al∧v=fi 0∧g'=g.set i (.own 0 84 41 (pC inp r o (zi ⟨p,rows,rates,next,left,tm,ls,al⟩) u m)))∨∃e X,e≠0∧v=fi e∧g'=g.set i X∧((jQ rows rates).2=e∨((jQ rows rates).2=0∧(zm left next).2=e)∨((jQ rows rates).2=0∧(zm left next).2=0∧(jZ (zm left next).1 inp.judge).2=e)):=by
 obtain⟨hi,ho,hc,hu,hm⟩:=hP;obtain⟨o0,o1,o2,o3,o4,o5,o6,o7,rfl⟩:=len8 ho;obtain⟨u0,u1,u2,u3,u4,u5,u6,rfl⟩:=len7 hu;obtain⟨m0,m1,m2,m3,m4,m5,m6,m7,m8,rfl⟩:=len9 hm;have li:=zd hi;refine Cl.lv fun hG=> ?_;have hlv:=hG i _ hi;simp[lvO,pC,zP,zi] at hlv;refine Cl.ip rfl (zuJ rfl) fun Ψ hΨ=> ?_;simp[pC,zP,zi] at hi;have hs:g.set i (.own 0 84 41 (pC inp r [o0,o1,o2,o3,o4,o5,o6,o7] (zi ⟨p,rows,rates,next,left,0,0,0⟩) [u0,u1,u2,u3,u4,u5,u6] [m0,m1,m2,m3,m4,m5,m6,m7,m8]))=g:=yZ hi;simp[hi,li];refine zb.go0 (tempX (RdX.lst _ rows) (RdX.lst _ rates) hr) ?_;simp;refine zc (fun h1=> ?_) (fun h1=> ?_)
 ·simp at h1⊢;refine Gh.pure0 .i (hΨ _ _ (.inr ⟨_,_,h1,rfl,hs.symm,.inl rfl⟩))
 simp at h1;have e1:jQ rows rates=((jQ rows rates).1,0):=by rw[←h1]
 simp[hi,li];refine zb.pure (lossP ..) ?_;simp;refine zc (fun h2=> ?_) (fun h2=> ?_)
 ·simp at h2⊢;refine zgb (by simp[lvO,hlv]) (by simp) (hΨ _ _ (.inr ⟨_,_,h2,rfl,rfl,.inr (.inl ⟨h1,rfl⟩)⟩))
 simp at h2;have e2:zm left next=((zm left next).1,0):=by rw[←h2]
 simp[hi,li];refine zb.pure (zsL ..) ?_;simp;refine zc (fun h3=> ?_) (fun h3=> ?_)
 ·simp at h3⊢;refine zgb (by simp[lvO,hlv]) (by simp) (hΨ _ _ (.inr ⟨_,_,h3,rfl,rfl,.inr (.inr ⟨h1,h2,rfl⟩)⟩))
 simp at h3;have e3:jZ (zm left next).1 inp.judge=((jZ (zm left next).1 inp.judge).1,0):=by rw[←h3]
 simp[hi,li];exact zgb (by simp[lvO,hlv]) (by simp) (hΨ _ _ (.inl ⟨_,_,_,⟨e1,e2,e3⟩,rfl,rfl⟩))
theorem qO.set{T R:Nat}{g:XH}{a b i:Nat}{X:XO}{t:List Rw}(h:qO T R g a b t)(ha:a≠i)(hb:b≠i):qO T R (g.set i X) a b t:=by obtain⟨w,h1,h2⟩:=h;exact⟨w,by rw[zH ha.symm];exact h1,by rw[zH hb.symm];exact h2⟩
theorem zaF{l:List Int}{k:Nat}(hk:k<l.length):(l.flatMap zR)[k]? =some (xi l[k]):=by have:=(atX zG hk).2.2 0 (by decide);simpa[zR] using this
theorem keyCP(x:Bu)(w:Wa){g:XH}{a:Nat}(ha:g[a]? =some (.own 0 244 5 (jI w))):Cl C (fun _=>False) 288 [.agg (z1 x),.s (.ptr a 0 0)] g fun u g'=>u=fb (jH w.c w.y x)∧g'=g:=by
 have la:=zd ha;refine Cl.ip rfl (zuJ rfl) fun Ψ hΨ=> ?_;simp[z1,jI] at ha⊢;simp[ha,la]
 repeat' first|(refine zc (fun hc=> ?_) (fun hc=> ?_)<;>try simp[z1,ha,la])
 all_goals(refine Gh.pure (.s (.lt (by simp))) (hΨ _ _ ⟨?_,rfl⟩);simp at *;simp[jH, *])
theorem zbD(c y now:Int):∀(l:List Bu) (s:List Int) (k:Nat),(ym (jH c y) k l= -1∧ZZ l s c y now=now)∨∃i,ym (jH c y) k l=((k+i:Nat):Int)∧i<l.length∧((∃h:i<s.length,ZZ l s c y now=s[i])∨(s.length≤i∧ZZ l s c y now=now))
 |[],_,_=> .inl ⟨rfl,by simp[ZZ]⟩
 |b::l,s,k=>by
  unfold ym;cases hk:jH c y b with
  |true=>
   refine .inr ⟨0,by simp,by simp,?_⟩;cases s with
   |nil=>exact .inr ⟨zuQ _,by simp[ZZ]⟩
   |cons r s=>exact .inl ⟨by simp,by simp[ZZ,hk]⟩
  |false=>
   cases s with
   |nil=>
    rcases zbD c y now l [] (k+1) with⟨h1,_⟩|⟨i,h1,h2,_⟩
    ·exact .inl ⟨by simpa using h1,by simp[ZZ]⟩
    ·exact .inr ⟨i+1,by simp only[zvg,if_false];rw[h1];congr 1;omega,by simpa using h2,.inr ⟨by simp,by simp[ZZ]⟩⟩
   |cons r s=>
    have e:ZZ (b::l) (r::s) c y now=ZZ l s c y now:=by simp[ZZ,hk]
    rw[e];rcases zbD c y now l s (k+1) with⟨h1,h2⟩|⟨i,h1,h2,h3⟩
    ·exact .inl ⟨by simpa using h1,h2⟩
    ·refine .inr ⟨i+1,by simp only[zvg,if_false];rw[h1];congr 1;omega,by simpa using h2,?_⟩;rcases h3 with⟨h3,h4⟩|⟨h3,h4⟩
     ·exact .inl ⟨by simpa using h3,by simpa using h4⟩
     ·exact .inr ⟨by simpa using h3,h4⟩
theorem zdW(op:Bal):∀(l:List Wa) (s:List Int) (k:Nat) (h1:k<l.length) (h2:k<s.length),yE op (l.take (k+1)) (s.take (k+1))=yE op (l.take k) (s.take k)++[ZZ op.b op.r l[k].c l[k].y s[k]]
 |[],_,k,h1,_=>by simp at h1
 |_::_,[],k,_,h2=>by simp at h2
 |b::l,r::s,0,_,_=>by simp[yE]
 |b::l,r::s,k+1,h1,h2=>by simp only[zu8,yE,zwj,zv9];rw[zdW op l s k (by simpa using h1) (by simpa using h2)]
theorem zbE(op:Bal):∀(l:List Wa) (s:List Int),l.length=s.length→(yE op l s).length=l.length
 |[],[],_=>by simp[yE]
 |[],_::_,h=>by simp at h
 |_::_,[],h=>by simp at h
 |b::l,r::s,h=>by simp only[yE,zvA];rw[zbE op l s (by simpa using h)]
theorem ZS(t:List Rw)(j:ByteArray)(p:Int):∀(l:List Int) (m:List Int),zS t j p l=some m→m.length=l.length
 |[],m,h=>by
  simp[zS] at h;rw[←h]
 |y::l,m,h=>by
  simp only[zS] at h;cases hr:jm t j (max y (p.tdiv 4)) p with
  |none=>rw[hr] at h;cases h
  |some r=>
   rw[hr] at h;obtain⟨m',h1,rfl⟩:=zuM.1 h;simp[ZS t j p l m' h1]
theorem Zx(o c:List Bu):(zw o c).length≤o.length+c.length:=by have h1:=YH o [];have h2:=YI c (o.foldl qu []);simp only[zwb] at h1;unfold zw;rw[zJ,zvc];omega
def zkn(t:List Rw)(inp:Inp)(op:Bal)(ways:List Wa)(now:List Int)(tm tr:Int):Prop:=zS t inp.j inp.p (ways.map (·.y))=some now∧JQ ways (yE op ways now) now=(tm,tr,0)
def znf(t:List Rw)(inp:Inp)(op:Bal)(ways:List Wa)(e:Int):Prop:=(zS t inp.j inp.p (ways.map (·.y))=none∧e=7)∨∃now,zS t inp.j inp.p (ways.map (·.y))=some now∧(JQ ways (yE op ways now) now).2.2=e∧e≠0
theorem ztZ{g:XH}{i:Nat}{inp:Inp}{r:XV}{op cl:Bal}{u m:List XV}(hP:ProP g i inp r (zi op) (zi cl) u m)(hop:BalL op)(hcl:BalL cl){a b:Nat}{t:List Rw}(ht:qO 145 140 g a b t)(hai:a≠i)(hbi:b≠i)(hl:t.length≤1000)(hp:zl inp.p=true):
 Cl C (fun x=>x=i) 224 [.s (.ptr i 0 0),.s (.ptr a 0 0)] g fun v g'=>(∃now tm tr,zkn t inp op (zw op.b cl.b) now tm tr∧v=fi 0∧g'=g.set i (.own 0 84 41 (pC inp r (zi op) (zi cl) u ([zhH (zw op.b cl.b),Yv now,xi tm,xi tr]++m.drop 4))))∨∃e X,znf t inp op (zw op.b cl.b) e∧v=fi e∧g'=g.set i X:=by
 obtain⟨hi,ho,hc,hu,hm⟩:=hP;obtain⟨u0,u1,u2,u3,u4,u5,u6,rfl⟩:=len7 hu;obtain⟨m0,m1,m2,m3,m4,m5,m6,m7,m8,rfl⟩:=len9 hm;have li:=zd hi;have hol:=hop.lb;have hor:=hop.lr;have hcb:=hcl.lb;refine Cl.lv fun hG=> ?_;have hlv:=hG i _ hi;simp[lvO,pC,zP,zi] at hlv;refine Cl.ip rfl (zuJ rfl) fun Ψ hΨ=> ?_;simp[pC,zP,zi] at hi;simp[hi,li];refine zb.go0 (Qg (RdX.lst _ op.b) (RdX.lst _ cl.b) hol hcb) ?_;have hwl:=Zx op.b cl.b;generalize hways:zw op.b cl.b=ways at *;simp[hi,li];generalize hGG:g.set i _=G;change XH at G;have hG1:=(congrArg (fun G:XH=>G[i]?) hGG).symm;rw[yn li] at hG1;have hGl:G.length=g.length:=by rw[←hGG,zvw]
 have liG:i<G.length:=by omega
 have htG:qO 145 140 G a b t:=by rw[←hGG];exact ht.set hai hbi
 have hset:∀X,G.set i X=g.set i X:=fun X=>by rw[←hGG,List.set_set]
 clear hGG;rw[←hGl];refine Lp.genG 261 3 (σ:=Nat) ways.length (fun k w=>[(5,.s (.sl G.length w 0 k)),(33,fi k)]) (fun k w=>G++[.own w 261 3 (((ways.take k).map fun x=>(⟨x.c,x.y,0⟩:Bu)).flatMap z1)]) (fun k w=>True) 0 (by decide) rfl (by simp[GhF]) (by simp) trivial ?_ ?_
 ·rintro q hq w _ hlt N hN;obtain⟨a1,a2,_⟩:=atX yl hq;have e1:(ways.take (q+1)).map (fun x=>(⟨x.c,x.y,0⟩:Bu))=(ways.take q).map (fun x=>(⟨x.c,x.y,0⟩:Bu))++[⟨ways[q].c,ways[q].y,0⟩]:=by rw[zu3 hq,zvs];rfl
  have hfl:(((ways.take q).map fun x=>(⟨x.c,x.y,0⟩:Bu)).flatMap z1).length=q*3:=by rw[zf zO];simp;omega
  rw[e1] at hN;rw[zvq] at hN;have hlF:∀m,zr m (((ways.take q).map fun x=>(⟨x.c,x.y,0⟩:Bu)).flatMap z1):=fun m=>JS m _;generalize((ways.take q).map fun x=>(⟨x.c,x.y,0⟩:Bu)).flatMap z1=F at *;simp[l224_0,hq,a1,a2,jI,hfl,show(q+1)*24≤140737488355328 by omega,yB hq (by omega)];exact y7 (fun fr g'=>hN (w+1) fr g' trivial) (by simp[z1]) (by simp) (by simpa using hlt) (by simp[lvO,hlF,z1])
 ·rintro w _;simp[l224_0,hG1,liG];have hall:RdX (G++[.own w 261 3 ((ways.map fun x=>(⟨x.c,x.y,0⟩:Bu)).flatMap z1)]) 261 3 z1 (.sl G.length w 0 (ways.map fun x=>(⟨x.c,x.y,0⟩:Bu)).length) (ways.map fun x=>(⟨x.c,x.y,0⟩:Bu)):=RdX.sl zO (by simp);have hq:=zox htG.app hl inp.j inp.p hall (by simp;omega);rw[zvc,zwE] at hq;have ey:((fun x:Bu=>x.y)∘fun x:Wa=>(⟨x.c,x.y,0⟩:Bu))=fun x=>x.y:=rfl;rw[ey] at hq;refine zb.go0 hq ?_;clear hq hall;rcases h1:zS t inp.j inp.p (ways.map (·.y)) with _|now
  ·rw[show Zs t inp.j inp.p (ways.map (·.y))= .tup [.s (.v .nils),fi 7] by simp[Zs,hp,h1]];simp;rw[←yZ hG1,hset];exact Y8 (by simp[lvO,hlv]) (by simp) (hΨ _ _ (.inr ⟨7,_,.inl ⟨h1,rfl⟩,rfl,rfl⟩))
  rw[show Zs t inp.j inp.p (ways.map (·.y))= .tup [.s (Yv now),fi 0] by simp[Zs,hp,h1]];have hnl:=ZS _ _ _ _ _ h1;rw[zvc] at hnl;simp[hG1,liG];rw[hset];generalize hHH:g.set i _=H;change XH at H;have hH1:=(congrArg (fun G:XH=>G[i]?) hHH).symm;rw[yn li] at hH1;have hHl:H.length=g.length:=by rw[←hHH,zvw]
  have hsetH:∀X,H.set i X=g.set i X:=fun X=>by rw[←hHH,List.set_set]
  clear hHH;rw[show G.length=H.length by omega];clear hG1 liG htG hset;generalize hK:H++[XO.own w 261 3 ((ways.map fun x=>(⟨x.c,x.y,0⟩:Bu)).flatMap z1)]=K;have hK1:K[i]? =some (.own 0 84 41 [xs inp.j,xi inp.p,xi inp.book,xi inp.perm,xi inp.judge,xi inp.cap,xi inp.life,xi inp.up,r,xi op.p,zhG op.b,Yv op.r,xi op.next,xi op.left,xi op.temp,xi op.loss,xi op.allow,xi cl.p,zhG cl.b,Yv cl.r,xi cl.next,xi cl.left,xi cl.temp,xi cl.loss,xi cl.allow,u0,u1,u2,u3,u4,u5,u6,zhH ways,Yv now,m2,m3,m4,m5,m6,m7,m8]):=by rw[←hK,zq (by omega)];exact hH1
  have liK:i<K.length:=zd hK1;have hKH:H.length≤K.length:=by rw[←hK];simp
  have hHK:∃J,K=H++J:=⟨_,hK.symm⟩
  clear hK;refine zb.go (Y2 (z:=1) (enc:=zR) rfl rfl rfl zG (by decide) (RdX.lst K now) (fun a=>by simp[zR]) (by omega)) (fun _ _ h=>h.elim) ?_;rintro v g' ⟨w2,rfl,rfl⟩;simp[hK1,liK];refine Lp.genU (σ:=Unit) ways.length (fun k _=>[(76,fi k)]) (fun k _=>K++[.own w2 3 1 ((yE op (ways.take k) (now.take k)++now.drop k).flatMap zR)]) (fun k _=>True) () (by decide) rfl (by simp) (by simp[yE]) trivial ?_ ?_
  ·rintro q hq _ _ hlt N hN;obtain⟨a1,a2,_⟩:=atX yl hq;have hqn:q<now.length:=by omega
   have o1:=zdW op ways now q hq hqn;have ol:=zbE op (ways.take q) (now.take q) (by simp;omega);rw[zu6,zvD (by omega)] at ol;have hMl:(yE op (ways.take q) (now.take q)++now.drop q).length=now.length:=by simp[ol];omega
   obtain⟨nq,hnq⟩:∃n,n=now[q]'hqn:=⟨_,rfl⟩
   rw[←hnq] at o1;have hMq:∀h,(yE op (ways.take q) (now.take q)++now.drop q)[q]'h=nq:=fun h=>by
    have e:(yE op (ways.take q) (now.take q)++now.drop q)[q]? =now[q]? :=by rw[zuP (by omega),ol,zvN,zvR,zwe]
    rw[zuY h,zuY hqn,←hnq] at e;exact zuK e
   have hM2:yE op (ways.take (q+1)) (now.take (q+1))++now.drop (q+1)=(yE op (ways.take q) (now.take q)++now.drop q).set q (ZZ op.b op.r ways[q].c ways[q].y nq):=by rw[o1,zvX _ _ (by omega),ol,zvN,zvt hqn,←hnq,zu9];rfl
   rw[hM2] at hN;clear hM2;generalize yE op (ways.take q) (now.take q)++now.drop q=M at *;have hqM:q<M.length:=by omega
   have hMq:=hMq hqM;have h2:=zf zG M;have hcs:¬M.flatMap zR=[]:=fun e=>by rw[e] at h2;simp at h2;omega
   have hs:=jT zG (l:=M) (k:=q) (by omega) (c:=0) (by decide) (v:=xi (ZZ op.b op.r ways[q].c ways[q].y nq)) (x:=ZZ op.b op.r ways[q].c ways[q].y nq) rfl [];simp only[zvl,zxZ,zwe] at hs;simp[l224_1,hq,a1,a2,jI,hK1,liK,show H.length≤K.length+1 by omega];refine zb.go0 (Ys (q:=jH ways[q].c ways[q].y) (f:=287) rfl zO (by decide) (RdX.lst _ op.b) (by omega) (.inr ⟨K.length+2,288,[],[.s (.ptr (K.length+1) 0 0)],rfl,by simp,fun x _=>keyCP x ways[q] (by simp[jI])⟩)) ?_;have same:ZZ op.b op.r ways[q].c ways[q].y nq=nq→∀fr J,fr=(qo [(0,some (.s (.ptr i 0 0))),(8,some (.s (Yv now))),(10,some (.s (.sl K.length w2 0 now.length))),(74,some (.s (zhH ways))),(75,some (fi ways.length)),(76,some (fi 0))] [(76,fi ((q+1:Nat):Int))])→N fr (K++XO.own w2 3 1 (M.flatMap zR)::J):=fun he fr J hf=>by refine y7 (fun fr g'=>hN () fr g' trivial) ?_ hf (by simpa using hlt) (by simp[lvO]);rw[he,←hMq,zxb]
   rcases zbD ways[q].c ways[q].y nq op.b op.r 0 with⟨f1,f2⟩|⟨k,f1,f2,f3⟩
   ·simp[f1,hK1,liK,yB hq (by omega)];exact same f2 _ _ (by simp)
   ·rw[zvv] at f1;simp[f1,hK1,liK];rcases f3 with⟨f3,f4⟩|⟨f3,f4⟩
    ·simp[f3,hK1,liK,zaF f3,f4.symm,hKH,hqM,hcs,hs,h2,show q<now.length by omega,show q+1≤M.length by omega,show¬M=[] from fun e=>by rw[e] at hqM;simp at hqM,yB hq (by omega)];exact y7 (fun fr g'=>hN () fr g' trivial) rfl (by simp) (by simpa using hlt) (by simp[lvO])
    ·simp[show¬k<op.r.length by omega,hK1,liK,yB hq (by omega)];exact same f4 _ _ (by simp)
  ·rintro _ _;rw[zvd,zvG (by omega),List.drop_of_length_le (by omega),zvl];have hol:=zbE op ways now (by omega);simp[l224_1,hK1,liK];have hrd:RdX (K++[.own w2 3 1 ((yE op ways now).flatMap zR)]) 3 1 zR (.sl K.length w2 0 now.length) (yE op ways now):=by
    have:=RdX.sl (g:=K++[.own w2 3 1 ((yE op ways now).flatMap zR)]) (i:=K.length) (w:=w2) (t:=3) zG (l:=yE op ways now) (by simp);rw[hol,←hnl] at this;exact this
   have hT:=zrk (o:=op.b) (c:=cl.b) (RdX.lst _ op.b) (RdX.lst _ cl.b) hrd (RdX.lst _ now) (by omega) hcb;refine zb.go0 hT ?_;clear hT hrd;obtain⟨J,rfl⟩:=hHK;have liH:i<H.length:=by omega
   rw[hways];generalize hX:JQ ways (yE op ways now) now=X at *;obtain⟨tm,tr,e⟩:=X;simp[hH1,liH,hK1];rw[hsetH];by_cases he:e=0
   ·subst he;exact Y8 (by simp[lvO,hlv]) (by simp) (hΨ _ _ (.inl ⟨now,tm,tr,⟨h1,hX⟩,rfl,rfl⟩))
   ·exact Y8 (by simp[lvO,hlv]) (by simp) (hΨ _ _ (.inr ⟨e,_,.inr ⟨now,h1,by rw[hX],he⟩,rfl,rfl⟩))
theorem zqa(a b:Int):Pure C 290 [fi a,fi b] (fi (wr (a-b))):=by refine Pure.intro0 (e:=e290) rfl (zuJ rfl) (by simp) fun g Ψ h0 hJ=> ?_;simp;exact h0
theorem zoy(a b:Int):Pure C 291 [.agg [xi a,xi b]] (fi (wr (a+b))):=by refine Pure.intro0 (e:=e291) rfl (zuJ rfl) (by simp) fun g Ψ h0 hJ=> ?_;simp;exact hJ _
structure Cost where
 lm:Int
 lr:Int
 am:Int
 de:Int
 tot:Int
def yO(op cl:Bal)(tax up tm tr:Int):Cost:=
 let lr:=wr (zg op.left op.next-zg op.left cl.next);let lm:=wr (wr (op.loss-cl.loss)-lr);let am:=wr (op.allow-cl.allow);let de:=wr (wr (wr (wr (tm+tr)+lm)+lr)+am)
 ⟨lm,lr,am,de,wr (wr (tax+de)+up)⟩
def Jt(op cl:Bal)(tax up tm tr:Int):List Int:=
 let c:=yO op cl tax up tm tr
 [c.lm,c.lr,c.am,wr (tax+up),wr (cl.temp-op.temp),wr (cl.loss-op.loss),wr (cl.allow-op.allow),c.de,c.tot]
theorem zor{g:XH}{i:Nat}{inp:Inp}{r:XV}{op cl:Bal}{cur:Res}{tm tr:Int}{ways now m4 m5 m6 m7 m8:XV}(hP:ProP g i inp r (zi op) (zi cl) (zD cur) [ways,now,xi tm,xi tr,m4,m5,m6,m7,m8]):
 Cl C (fun x=>x=i) 225 [.s (.ptr i 0 0)] g fun v g'=>v=fi (if(Jt op cl cur.tax inp.up tm tr).all za then 0 else 6)∧g'=g.set i (.own 0 84 41 (pC inp r (zi op) (zi cl) (zD cur) [ways,now,xi tm,xi tr,xi (yO op cl cur.tax inp.up tm tr).lm,xi (yO op cl cur.tax inp.up tm tr).lr,xi (yO op cl cur.tax inp.up tm tr).am,xi (yO op cl cur.tax inp.up tm tr).de,xi (yO op cl cur.tax inp.up tm tr).tot])):=by
 obtain⟨hi,ho,hc,hu,hm⟩:=hP;have li:=zd hi;refine Cl.lv fun hG=> ?_;have hlv:=hG i _ hi;simp[lvO,pC,zP,zi,zD] at hlv;refine Cl.ip rfl (zuJ rfl) fun Ψ hΨ=> ?_;simp[pC,zP,zi,zD] at hi;simp[hi,li];refine zy 11 [0] (fun _=>False) (by decide) (by decide) ?_;simp only[zu8,zvE,zvj,zve];simp[hi,li];refine zb.pure (ofX ..) ?_;simp[hi,li];refine zb.pure (ofX ..) ?_;simp[hi,li];refine zb.pure (zqa ..) ?_;simp[hi,li];refine zy 20 [0] (fun _=>False) (by decide) (by decide) ?_;simp only[zu8,zvE,zvj,zve];simp[hi,li];refine zb.pure (zoy ..) ?_;simp[hi,li];refine Lp.genU (σ:=Unit) 9 (fun k _=>[(152,fi k)]) (fun _ _=>g.set i (.own 0 84 41 (pC inp r (zi op) (zi cl) (zD cur) [ways,now,xi tm,xi tr,xi (yO op cl cur.tax inp.up tm tr).lm,xi (yO op cl cur.tax inp.up tm tr).lr,xi (yO op cl cur.tax inp.up tm tr).am,xi (yO op cl cur.tax inp.up tm tr).de,xi (yO op cl cur.tax inp.up tm tr).tot]))++[.own 0 77 8 (zi op),.own 0 77 8 (zi cl),.own 0 3 1 ((Jt op cl cur.tax inp.up tm tr).flatMap zR)]) (fun k _=>∀(j:Nat) (h:j<(Jt op cl cur.tax inp.up tm tr).length),j<k→za (Jt op cl cur.tax inp.up tm tr)[j]=true) () (by decide) rfl (by simp) rfl (by omega) ?_ ?_
 all_goals have hlv2:lvO g.length (.own 0 84 41 (pC inp r (zi op) (zi cl) (zD cur) [ways,now,xi tm,xi tr,xi (yO op cl cur.tax inp.up tm tr).lm,xi (yO op cl cur.tax inp.up tm tr).lr,xi (yO op cl cur.tax inp.up tm tr).am,xi (yO op cl cur.tax inp.up tm tr).de,xi (yO op cl cur.tax inp.up tm tr).tot])):=by simp[lvO,pC,hlv]
 all_goals generalize XO.own 0 84 41 (pC inp r (zi op) (zi cl) (zD cur) [ways,now,xi tm,xi tr,xi (yO op cl cur.tax inp.up tm tr).lm,xi (yO op cl cur.tax inp.up tm tr).lr,xi (yO op cl cur.tax inp.up tm tr).am,xi (yO op cl cur.tax inp.up tm tr).de,xi (yO op cl cur.tax inp.up tm tr).tot])=X at *
 all_goals have hl9:(Jt op cl cur.tax inp.up tm tr).length=9:=rfl
 all_goals generalize Jt op cl cur.tax inp.up tm tr=l at *
 ·rintro q hq _ hP hlt N hN;have hql:q<l.length:=by omega
  have e:=zaF hql;simp[l225_0,show(q:Int)<9 by omega,hq,e];refine zb.pure (z8 ..) ?_;simp;refine zc (fun h1=> ?_) (fun h1=> ?_)
  ·simp[yB hq (by omega)];exact qG () hN (fun j h hj=>if hjq:j<q then hP j h hjq else by
    obtain rfl:j=q:=by omega
    exact h1) (by simp) (by simp)
  ·simp;refine Y8 hlv2 (by simp) (hΨ _ _ ⟨?_,rfl⟩);have:l.all za=false:=by
    rw[zxz];exact⟨_,zvi hql,by simp[h1]⟩
   simp[this]
 ·rintro _ hP;simp[l225_0];refine Y8 hlv2 (by simp) (hΨ _ _ ⟨?_,rfl⟩);have:l.all za=true:=by
   rw[zva];intro x hx;obtain⟨j,hj,rfl⟩:=zw1 hx;exact hP j hj (by omega)
  simp[this]
theorem jg{α:Type}(lt:α→α→Bool)(b:α):∀(l:List α),(ZL lt b l).Perm (b::l)
 |[]=>List.Perm.refl _
 |x::r=>by
  unfold ZL;split
  ·exact List.Perm.refl _
  ·exact((jg lt b r).cons x).trans (List.Perm.swap b x r)
theorem yx{α:Type}(lt:α→α→Bool):∀(l:List α),(zu lt l).Perm l
 |[]=>List.Perm.refl _
 |x::r=>by unfold zu;exact(jg lt x _).trans ((yx lt r).cons x)
theorem ziv{α:Type}(f:α→Int){l m:List α}(h:l.Perm m):(l.map f).sum=(m.map f).sum:=by
 induction h with
 |nil=>rfl
 |cons x _ ih=>simp[ih]
 |swap x y l=>simp;omega
 |trans _ _ h1 h2=>exact h1.trans h2
def zeu(a b:Vi):Prop:=¬(a.o=b.o∧a.e=b.e)
theorem zby{a b:Vi}:(ltV a b||ltV b a)=true↔zeu a b:=by unfold zeu;simp[ltV];omega
theorem yU:∀{l:List Vi},jF ltV l=true↔l.Pairwise zeu
 |[]=>by simp[jF]
 |x::l=>by simp only[jF,zuS,zva,zvh,yU (l:=l)];exact⟨fun h=>⟨fun y hy=>zby.1 (h.1 y hy),h.2⟩,fun h=>⟨fun y hy=>zby.2 (h.1 y hy),h.2⟩⟩
theorem LosI.perm{l m:List Vi}(h:LosI l)(p:m.Perm l):LosI m:=by
 refine⟨by rw[p.length_eq];exact h.len,fun v hv=>h.m v (p.mem_iff.1 hv),?_,?_⟩
 ·have:zA m=zA l:=ziv _ p;rw[this];exact h.t
 ·rw[yU] at *;have h':=yU.1 h.d;refine(p.symm.pairwise h' ?_);intro a b k e;exact k ⟨e.1.symm,e.2.symm⟩
theorem LosI.cons{v:Vi}{l:List Vi}(h:LosI (v::l)):LosI l:=by have h1:=h.m v (by simp);have h2:=J4 (l:=l) fun x hx=>h.m x (by simp[hx]);have h3:=h.t;have h4:=h.len;refine⟨by simp at h4;omega,fun x hx=>h.m x (by simp[hx]),?_,yU.2 (zvh.1 (yU.1 h.d)).2⟩;simp only[zA,zu7,zwu,za,zuZ] at h3 h2;exact zv6 (by unfold zA;constructor<;>omega)
theorem znU{l:List Vi}(h:∀v∈l,0≤v.n∧za v.n=true){v:Vi}(hv:v∈l):v.n≤zA l:=by
 induction l with
 |nil=>simp at hv
 |cons x l ih=>
  have h1:=h x (by simp);have h2:=J4 (l:=l) fun x hx=>h x (by simp[hx]);simp only[zA,zu7,zwu] at ih h2⊢;rcases zu4.1 hv with rfl|hv
  ·omega
  ·have:=ih (fun x hx=>h x (by simp[hx])) hv;omega
theorem zfg(o e n:Int):∀(l:List Vi),l.any (Yt o e)=true→zA (QQ o e n l)=zA l+n∧(QQ o e n l).length=l.length∧(QQ o e n l).map (fun v=>(v.o,v.e))=l.map (fun v=>(v.o,v.e))∧∀v∈QQ o e n l,v∈l∨∃x∈l,v.n=x.n+n
 |[],h=>by simp at h
 |x::l,h=>by
  unfold QQ;split
  ·refine⟨by simp[zA];omega,by simp,by simp,fun v hv=> ?_⟩;rcases zu4.1 hv with rfl|hv
   ·exact .inr ⟨x,by simp,rfl⟩
   ·exact .inl (by simp[hv])
  ·rename_i hx;obtain⟨h1,h2,h3,h4⟩:=zfg o e n l (by simpa[hx] using h);refine⟨by simp only[zA,zu7,zwu] at h1⊢;omega,by simp[h2],by simp[h3],fun v hv=> ?_⟩;rcases zu4.1 hv with rfl|hv
   ·exact .inl (by simp)
   ·rcases h4 v hv with h|⟨y,hy,e⟩
    ·exact .inl (by simp[h])
    ·exact .inr ⟨y,by simp[hy],e⟩
theorem ze9{l m:List Vi}(h:m.map (fun v=>(v.o,v.e))=l.map (fun v=>(v.o,v.e)))(k:l.Pairwise zeu):m.Pairwise zeu:=by have h1:(l.map (fun v:Vi=>(v.o,v.e))).Pairwise (fun a b=>¬(a.1=b.1∧a.2=b.2)):=zwY.2 k;rw[←h] at h1;exact(zwY (f:=fun v:Vi=>(v.o,v.e))).1 h1
theorem zp2{l:List Vi}(h:LosI l){o e n:Int}(h0:(QO l o e n).1=0):LosI (QO l o e n).2:=by
 unfold QO at h0⊢;split at h0
 ·simp at h0
 rename_i k1;rw[zuV k1];split at h0
 ·simp at h0
 rename_i k2;rw[zuV k2];have hn:1≤n:=by omega
 have ht:za (zA l+n)=true:=by simpa using k2
 split at h0
 ·rename_i k3;rw[zuT k3];obtain⟨h1,h2,h3,h4⟩:=zfg o e n l k3;refine⟨by rw[h2];exact h.len,fun v hv=> ?_,by rw[h1];exact ht,yU.2 (ze9 h3 (yU.1 h.d))⟩;rcases h4 v hv with hv|⟨x,hx,e⟩
  ·exact h.m v hv
  ·have a1:=h.m x hx;have a2:=znU h.m hx;simp[za] at a1 ht⊢;omega
 ·rename_i k3;rw[zuV k3];split at h0
  ·simp at h0
  rename_i k4;rw[zuV k4];refine LosI.perm ?_ (yx ltV _);refine⟨by simp;omega,fun v hv=> ?_,?_,?_⟩
  ·rcases zuX.1 hv with hv|hv
   ·exact h.m v hv
   ·rw[zvm] at hv;subst hv;have:za n=true:=by simp at k1;exact k1.2.2
    exact⟨by show 0≤n;omega,this⟩
  ·simp only[zA,zvs,zwZ,zu7,zwn,zxR] at ht⊢;exact ht
  ·refine yU.2 (zxI.2 ⟨yU.1 h.d,by simp,fun a ha b hb=> ?_⟩);rw[zvm] at hb;subst hb;rintro⟨e1,e2⟩;exact k3 (zwy.2 ⟨a,ha,by simp[Yt,e1,e2]⟩)
theorem zpP:∀{l:List Vi} {us:List Int},LosI l→(∀j (h1:j<us.length) (h2:j<l.length),0≤us[j]∧us[j]≤l[j].n)→us.length=l.length→let m:=List.zipWith Ya l us;(∀v∈m,0≤v.n∧za v.n=true)∧zA m≤zA l∧m.map (fun v=>(v.o,v.e))=l.map (fun v=>(v.o,v.e))
 |[],[],_,_,_=>by simp[zA]
 |[],_::_,_,_,h=>by simp at h
 |_::_,[],_,_,h=>by simp at h
 |v::l,u::us,hI,hj,hl=>by
  have h0:=hj 0 (by simp) (by simp);simp only[List.getElem_cons_zero] at h0;obtain⟨h1,h2,h3⟩:=zpP (l:=l) (us:=us) hI.cons (fun j a b=>by have:=hj (j+1) (by simpa using a) (by simpa using b);simpa using this) (by simpa using hl);have hv:=hI.m v (by simp);refine⟨fun x hx=> ?_,?_,?_⟩
  ·rw[zxy] at hx;rcases zu4.1 hx with rfl|hx
   ·have:=hv.2;simp[za] at this;exact⟨by show 0≤v.n-u;omega,zv6 (by show -100000000000≤v.n-u∧v.n-u≤100000000000;omega)⟩
   ·exact h1 x hx
  ·have e1:zA (List.zipWith Ya (v::l) (u::us))=(v.n-u)+zA (List.zipWith Ya l us):=by simp[zA,Ya]
   have e2:zA (v::l)=v.n+zA l:=by simp[zA]
   rw[e1,e2];omega
  ·simp[Ya,h3]
theorem zlP(l:List Vi):zA (l.filter fun v=> !(v.n==0))=zA l:=by
 induction l with
 |nil=>rfl
 |cons x l ih=>
  by_cases h:x.n=0
  ·rw[List.filter_cons_of_neg (by simp[h]),ih];simp[zA,h]
  ·rw[List.filter_cons_of_pos (by simp[h])];simp only[zA,zu7,zwu] at ih⊢;rw[ih]
theorem zoZ{l:List Vi}{us:List Int}(hI:LosI l)(hj:∀j (h1:j<us.length) (h2:j<l.length),0≤us[j]∧us[j]≤l[j].n)(hl:us.length=l.length):LosI (Q0 l us):=by
 rw[zbM];obtain⟨h1,h2,h3⟩:=zpP hI hj hl;have hz:=J4 h1;have ht:=hI.t;refine⟨?_,fun v hv=>h1 v (zvQ.1 hv).1,?_,?_⟩
 ·have a:=zwd (fun v:Vi=> !(v.n==0)) (List.zipWith Ya l us);have b:=hI.len;rw[List.length_zipWith] at a;omega
 ·rw[zlP];simp[za] at ht⊢;omega
 ·exact yU.2 ((ze9 h3 (yU.1 hI.d)).sublist zwm)
theorem zlb{l:List Vi}(hI:LosI l)(book perm moved cap life year r:Int){res:Res}{left:List Vi}(h:ZA l book perm moved cap life year r=(0,res,left)):LosI left:=by
 unfold ZA at h;split at h
 ·simp at h
 split at h
 ·simp at h
 rename_i k1 k2;have hk:=hI.kept year;have hnm:za (book+perm-moved)=true:=by simp[Jy,Jz] at k2;rw[zxt,zxY];exact k2.2.2.2.2
 generalize book+perm-moved=n at *;simp only at h;split at h
 ·simp only[zuL,true_and] at h;rw[←h.2];have hr:=Qh n cap hnm;exact zoZ hk (zgW year _ _ hr.1 fun v hv=>(hk.m v hv).1) (YW _ _ _)
 split at h
 ·split at h
  ·rename_i k3;simp only[zuL,true_and] at h;rw[←h.2];exact zp2 hk k3
  ·rename_i k3;simp at h;exact absurd h.1 k3
 ·simp only[zuL,true_and] at h;rw[←h.2];exact hk
def J7(l:List Wa):Int:=l.foldl (fun n r=>wr (n+r.m)) 0
theorem zmk{g:XH}{u v:XV}{o c:List Bu}(hu:RdX g 261 3 z1 u o)(hv:RdX g 261 3 z1 v c)(ho:o.length≤400)(hc:c.length≤400):
 Cl C (fun _=>False) 219 [.s u,.s v] g fun u g'=>u=fi (J7 (zw o c))∧g'=g:=by
 refine Cl.ip rfl (zuJ rfl) fun Ψ hΨ=> ?_;simp;refine zb.go0 (Qg hu hv ho hc) ?_;have hwl:=Zx o c;generalize zw o c=l at *;simp;refine Lp.foldU l (fun k (s:Int)=>[(5,fi s),(12,fi k)]) (fun _ _=>g) (fun n r=>wr (n+r.m)) 0 (by decide) rfl (by simp) rfl ?_ ?_
 ·rintro q hq s hs hlt N hN;obtain⟨a1,a2,_⟩:=atX yl hq;simp[l219_0,hq,a1,a2,jI,yB hq (by omega)];exact Jg hN (by simp) (by simp)
 ·rintro s rfl;simp[l219_0];exact Gh.here (hΨ _ _ ⟨rfl,rfl⟩)
noncomputable def ju(t:List Rw)(inp:Inp)(op:Bal)(l:List Vi)(rows:List Bu):Int×Pro×List Vi:=
 if¬zl inp.p=true∨¬zn inp.judge=true∨¬za inp.up=true then(1,zt,[])
 else match jm t inp.j (inp.p.tdiv 4) inp.p with
  |none=>(7,zt,[])
  |some r=>
   if(yR t inp.j inp.p).2≠0 then(7,zt,[])
   else match zS t inp.j inp.p (rows.map (·.y)) with
    |none=>(7,zt,[])
    |some rates=>
     let next:=(yR t inp.j inp.p).1
     let ways:=zw op.b rows;let tx:=ZA l inp.book inp.perm (J7 ways) inp.cap inp.life (inp.p.tdiv 4) r
     if tx.1≠0 then(tx.1,zt,[])
     else
      let left:=zA tx.2.2
      if(jQ rows rates).2≠0 then((jQ rows rates).2,zt,[])
      else if(zm left next).2≠0 then((zm left next).2,zt,[])
      else if(jZ (zm left next).1 inp.judge).2≠0 then((jZ (zm left next).1 inp.judge).2,zt,[])
      else match zS t inp.j inp.p (ways.map (·.y)) with
       |none=>(7,zt,[])
       |some now=>
        let ch:=JQ ways (yE op ways now) now
        if ch.2.2≠0 then(ch.2.2,zt,[])
        else
         let cl:Bal:=⟨inp.p,rows,rates,next,left,(jQ rows rates).1,(zm left next).1,(jZ (zm left next).1 inp.judge).1⟩
         let c:=yO op cl tx.2.1.tax inp.up ch.1 ch.2.1
         if(Jt op cl tx.2.1.tax inp.up ch.1 ch.2.1).all za then(0,⟨inp,r,op,cl,tx.2.1,ways,now,ch.1,ch.2.1,c.lm,c.lr,c.am,c.de,c.tot⟩,tx.2.2) else(6,zt,[])
def zkJ(x:Int×Pro×List Vi):XF:= .tup [.agg (zC x.2.1),.s (if x.1=0 then lpV x.2.2 else .v .nilp),fi x.1]
def YX:List XV:=[xs ⟨#[]⟩,xi 0,xi 0,xi 0,xi 0,xi 0,xi 0,xi 0,xi 0]++([xi 0,.v .nils,.v .nils,xi 0,xi 0,xi 0,xi 0,xi 0]++([xi 0,.v .nils,.v .nils,xi 0,xi 0,xi 0,xi 0,xi 0]++([xi 0,xi 0,xi 0,xi 0,xi 0,xi 0,.v .nils]++[.v .nils,.v .nils,xi 0,xi 0,xi 0,xi 0,xi 0,xi 0,xi 0])))
abbrev mkG(g:XH)(a:Nat)(inp:Inp)(op:Bal)(cur:Res)(s:List XV):XH:=g++[.own 0 62 1 [.ptr a 0 0],.own 0 74 8 (zP inp),.own 0 77 8 (zi op),.own 0 84 41 YX,.own 0 84 41 s,.own 0 300 1 [.ptr (g.length+4) 0 0],.own 0 79 7 (zD cur),.clo 222 [.s (.ptr (g.length+4) 0 0)] [],.clo 223 [] [.s (.ptr (g.length+5) 0 0),.s (.ptr g.length 0 0)],.clo 225 [.s (.ptr (g.length+4) 0 0)] [],.own 0 109 1 [.cl (g.length+7),.cl (g.length+8),.cl (g.length+9)]]
def mkS(t:List Rw)(inp:Inp)(op:Bal)(rows:List Bu)(rates:List Int)(r next lf:Int)(cur:Res):Nat→List XV→Prop
 |0,s=>s=pC inp (xi r) (zi op) (zi ⟨inp.p,rows,rates,next,lf,0,0,0⟩) (zD cur) [.v .nils,.v .nils,xi 0,xi 0,xi 0,xi 0,xi 0,xi 0,xi 0]
 |1,s=>∃tm ls al,zbd rows rates next lf inp.judge tm ls al∧s=pC inp (xi r) (zi op) (zi ⟨inp.p,rows,rates,next,lf,tm,ls,al⟩) (zD cur) [.v .nils,.v .nils,xi 0,xi 0,xi 0,xi 0,xi 0,xi 0,xi 0]
 |2,s=>∃tm ls al now cm cr,zbd rows rates next lf inp.judge tm ls al∧zkn t inp op (zw op.b rows) now cm cr∧s=pC inp (xi r) (zi op) (zi ⟨inp.p,rows,rates,next,lf,tm,ls,al⟩) (zD cur) [zhH (zw op.b rows),Yv now,xi cm,xi cr,xi 0,xi 0,xi 0,xi 0,xi 0]
 |_,s=>∃tm ls al now cm cr,zbd rows rates next lf inp.judge tm ls al∧zkn t inp op (zw op.b rows) now cm cr∧(Jt op ⟨inp.p,rows,rates,next,lf,tm,ls,al⟩ cur.tax inp.up cm cr).all za=true∧∃c,c=yO op ⟨inp.p,rows,rates,next,lf,tm,ls,al⟩ cur.tax inp.up cm cr∧s=zC ⟨inp,r,op,⟨inp.p,rows,rates,next,lf,tm,ls,al⟩,cur,zw op.b rows,now,cm,cr,c.lm,c.lr,c.am,c.de,c.tot⟩
theorem zku{n0:Nat}{J:XH}{K:List (Option Nat)}{O:XH}:FzVs n0 J K O YX (zC zt):=by
 have l0:∀n,lvV n0 (xi n):=fun n=>by simp
 have ls:lvV n0 (xs ⟨#[]⟩):=by simp
 exact .cons (.lt ls) (.cons (.lt (l0 _)) (.cons (.lt (l0 _)) (.cons (.lt (l0 _)) (.cons (.lt (l0 _)) (.cons (.lt (l0 _)) (.cons (.lt (l0 _)) (.cons (.lt (l0 _)) (.cons (.lt (l0 _))
  (.cons (.lt (l0 _)) (.cons .nil (.cons .nil (.cons (.lt (l0 _)) (.cons (.lt (l0 _)) (.cons (.lt (l0 _)) (.cons (.lt (l0 _)) (.cons (.lt (l0 _))
  (.cons (.lt (l0 _)) (.cons .nil (.cons .nil (.cons (.lt (l0 _)) (.cons (.lt (l0 _)) (.cons (.lt (l0 _)) (.cons (.lt (l0 _)) (.cons (.lt (l0 _))
  (.cons (.lt (l0 _)) (.cons (.lt (l0 _)) (.cons (.lt (l0 _)) (.cons (.lt (l0 _)) (.cons (.lt (l0 _)) (.cons (.lt (l0 _)) (.cons .nil
  (.cons .nil (.cons .nil (.cons (.lt (l0 _)) (.cons (.lt (l0 _)) (.cons (.lt (l0 _)) (.cons (.lt (l0 _)) (.cons (.lt (l0 _)) (.cons (.lt (l0 _)) (.cons (.lt (l0 _)) .nil))))))))))))))))))))))))))))))))))))))))
theorem znY(g:XH)(l:List Vi):zfz g (lpV l) l:=⟨_,.inl rfl,RdX.lst g l⟩
theorem Yp.app{g J:XH}{i:Nat}{l:List Bu}(h:Yp g i l):Yp (g++J) i l:=by unfold Yp at h⊢;rw[zq (zd h)];exact h
noncomputable def JA(t:List Rw)(inp:Inp)(op:Bal)(rows:List Bu)(rates:List Int)(r next lf:Int)(cur:Res)(left:List Vi):Int×Pro×List Vi:=
 if(jQ rows rates).2≠0 then((jQ rows rates).2,zt,[])
 else if(zm lf next).2≠0 then((zm lf next).2,zt,[])
 else if(jZ (zm lf next).1 inp.judge).2≠0 then((jZ (zm lf next).1 inp.judge).2,zt,[])
 else match zS t inp.j inp.p ((zw op.b rows).map (·.y)) with
  |none=>(7,zt,[])
  |some now=>
   let ch:=JQ (zw op.b rows) (yE op (zw op.b rows) now) now
   if ch.2.2≠0 then(ch.2.2,zt,[])
   else
    let cl:Bal:=⟨inp.p,rows,rates,next,lf,(jQ rows rates).1,(zm lf next).1,(jZ (zm lf next).1 inp.judge).1⟩
    let c:=yO op cl cur.tax inp.up ch.1 ch.2.1
    if(Jt op cl cur.tax inp.up ch.1 ch.2.1).all za then(0,⟨inp,r,op,cl,cur,zw op.b rows,now,ch.1,ch.2.1,c.lm,c.lr,c.am,c.de,c.tot⟩,left) else(6,zt,[])
theorem zjt{g:XH}{a:Nat}{inp:Inp}{op:Bal}{cur:Res}{s:List XV}:(mkG g a inp op cur s)[g.length+4]? =some (.own 0 84 41 s):=by simp
theorem zkK{g:XH}{a:Nat}{inp:Inp}{op:Bal}{cur:Res}{s s':List XV}:(mkG g a inp op cur s).set (g.length+4) (.own 0 84 41 s')=mkG g a inp op cur s':=by simp
theorem zqU{g:XH}{a:Nat}{inp:Inp}{op:Bal}{cur:Res}{s s':List XV}(ha:a<g.length)(h:zr g.length s'):Old (mkG g a inp op cur s').length (mkG g a inp op cur s) (mkG g a inp op cur s'):=by
 refine .loc fun o ho=> ?_;have h1:zr (g.length+11) s':=zr.mono (by omega) _ h;have h2:a<g.length+11:=by omega
 have h3:(mkG g a inp op cur s').length=g.length+11:=by simp
 rw[h3];simp only[zu4,zwa,or_false] at ho;rcases ho with rfl|rfl|rfl|rfl|rfl|rfl|rfl|rfl|rfl|rfl|rfl
 all_goals first|(simp[lvO,h1,h2];done)|(simp[lvO,YX];done)
theorem zp7{t:List Rw}{inp:Inp}{op:Bal}{rows:List Bu}{rates:List Int}{r next lf:Int}{cur:Res}{left:List Vi}{e:Int}(he:e≠0)(h:(jQ rows rates).2=e∨((jQ rows rates).2=0∧(zm lf next).2=e)∨((jQ rows rates).2=0∧(zm lf next).2=0∧(jZ (zm lf next).1 inp.judge).2=e)):JA t inp op rows rates r next lf cur left=(e,zt,[]):=by
 unfold JA;rcases h with h|⟨h1,h⟩|⟨h1,h2,h⟩
 ·rw[zuT (by rw[h];exact he),h]
 ·rw[zuV (by simp[h1]),zuT (by rw[h];exact he),h]
 ·rw[zuV (by simp[h1]),zuV (by simp[h2]),zuT (by rw[h];exact he),h]
theorem zqb{t:List Rw}{inp:Inp}{op:Bal}{rows:List Bu}{rates:List Int}{r next lf:Int}{cur:Res}{left:List Vi}{tm ls al e:Int}(hb:zbd rows rates next lf inp.judge tm ls al)(h:znf t inp op (zw op.b rows) e):e≠0∧JA t inp op rows rates r next lf cur left=(e,zt,[]):=by
 obtain⟨h1,h2,h3⟩:=hb;unfold JA;simp only[h1,h2,h3,ne_eq,not_true_eq_false,if_false];rcases h with⟨h,rfl⟩|⟨now,h,h4,h5⟩
 ·rw[h];exact⟨by decide,rfl⟩
 ·rw[h];simp only[h4,h5,not_false_eq_true,if_true];exact⟨trivial,trivial⟩
theorem zeE{t:List Rw}{inp:Inp}{op:Bal}{rows:List Bu}{rates:List Int}{r next lf:Int}{cur:Res}{left:List Vi}{tm ls al:Int}{now:List Int}{cm cr:Int}(hb:zbd rows rates next lf inp.judge tm ls al)(h:zkn t inp op (zw op.b rows) now cm cr):JA t inp op rows rates r next lf cur left=
 let cl:Bal:=⟨inp.p,rows,rates,next,lf,tm,ls,al⟩
 let c:=yO op cl cur.tax inp.up cm cr
 if(Jt op cl cur.tax inp.up cm cr).all za then(0,⟨inp,r,op,cl,cur,zw op.b rows,now,cm,cr,c.lm,c.lr,c.am,c.de,c.tot⟩,left) else(6,zt,[]):=by
 obtain⟨h1,h2,h3⟩:=hb;obtain⟨h4,h5⟩:=h;unfold JA;simp only[h1,h2,h3,h4,h5,ne_eq,not_true_eq_false,if_false]
theorem zqV{g:XH}{a:Nat}{t:List Rw}{inp:Inp}{op:Bal}{rows:List Bu}(hrl:rows.length≤400){rates:List Int}{r next lf:Int}{cur:Res}{left:List Vi}{s:List XV}(hs:mkS t inp op rows rates r next lf cur 0 s):
 Cl C (fun x=>x=g.length+4) 222 [.s (.ptr (g.length+4) 0 0)] (mkG g a inp op cur s) fun v g'=>(∃s',mkS t inp op rows rates r next lf cur 1 s'∧v=fi 0∧g'=mkG g a inp op cur s'∧zr g.length s')∨∃e X,e≠0∧JA t inp op rows rates r next lf cur left=(e,zt,[])∧v=fi e∧g'=(mkG g a inp op cur s).set (g.length+4) X:=by
 have hs:s=_:=hs;refine(ztY (i:=g.length+4) (inp:=inp) (r:=xi r) (o:=zi op) (u:=zD cur) (m:=[.v .nils,.v .nils,xi 0,xi 0,xi 0,xi 0,xi 0,xi 0,xi 0]) (p:=inp.p) (rows:=rows) (rates:=rates) (next:=next) (left:=lf) ⟨by rw[hs];exact zjt,rfl,rfl,rfl,rfl⟩ (by omega)).mono ?_;rintro v g' (⟨tm,ls,al,h1,rfl,rfl⟩|⟨e,X,he,rfl,rfl,h1⟩)
 ·exact .inl ⟨_,⟨tm,ls,al,h1,rfl⟩,rfl,zkK,by simp[pC]⟩
 ·exact .inr ⟨e,X,he,zp7 he h1,rfl,rfl⟩
theorem zqX{g:XH}{a:Nat}{t:List Rw}{inp:Inp}{op:Bal}{rows:List Bu}{rates:List Int}{r next lf:Int}{cur:Res}{left:List Vi}{s:List XV}(hs:mkS t inp op rows rates r next lf cur 2 s):
 Cl C (fun x=>x=g.length+4) 225 [.s (.ptr (g.length+4) 0 0)] (mkG g a inp op cur s) fun v g'=>(∃s',mkS t inp op rows rates r next lf cur 3 s'∧v=fi 0∧g'=mkG g a inp op cur s'∧zr g.length s')∨∃e X,e≠0∧JA t inp op rows rates r next lf cur left=(e,zt,[])∧v=fi e∧g'=(mkG g a inp op cur s).set (g.length+4) X:=by
 obtain⟨tm,ls,al,now,cm,cr,b1,b2,hs⟩:=hs;have hq:=zeE (t:=t) (inp:=inp) (op:=op) (rows:=rows) (rates:=rates) (r:=r) (next:=next) (lf:=lf) (cur:=cur) (left:=left) b1 b2;refine(zor (i:=g.length+4) (inp:=inp) (r:=xi r) (op:=op) (cl:=⟨inp.p,rows,rates,next,lf,tm,ls,al⟩) (cur:=cur) (tm:=cm) (tr:=cr) (ways:=zhH (zw op.b rows)) (now:=Yv now) (m4:=xi 0) (m5:=xi 0) (m6:=xi 0) (m7:=xi 0) (m8:=xi 0) ⟨by rw[hs];exact zjt,rfl,rfl,rfl,rfl⟩).mono ?_;rintro v g' ⟨rfl,rfl⟩;by_cases hc:(Jt op ⟨inp.p,rows,rates,next,lf,tm,ls,al⟩ cur.tax inp.up cm cr).all za=true
 ·rw[zuT hc];exact .inl ⟨_,⟨tm,ls,al,now,cm,cr,b1,b2,hc,_,rfl,rfl⟩,rfl,zkK,Qy _ _⟩
 ·rw[zuV hc];simp only[zuV hc] at hq;exact .inr ⟨6,_,by decide,hq,rfl,rfl⟩
theorem zqW{g:XH}{a b:Nat}{t:List Rw}(ht:qO 145 140 g a b t)(hl:t.length≤1000){inp:Inp}{op:Bal}(hop:BalL op){rows:List Bu}(hrl:rows.length≤400){rates:List Int}(hrr:rates.length≤400){r next lf:Int}{cur:Res}{left:List Vi}(hp:zl inp.p=true){s:List XV}(hs:mkS t inp op rows rates r next lf cur 1 s):
 Cl C (fun x=>x=g.length+4) 223 [.s (.ptr (g.length+5) 0 0),.s (.ptr g.length 0 0)] (mkG g a inp op cur s) fun v g'=>(∃s',mkS t inp op rows rates r next lf cur 2 s'∧v=fi 0∧g'=mkG g a inp op cur s'∧zr g.length s')∨∃e X,e≠0∧JA t inp op rows rates r next lf cur left=(e,zt,[])∧v=fi e∧g'=(mkG g a inp op cur s).set (g.length+4) X:=by
 obtain⟨tm,ls,al,b1,hs⟩:=hs;have la:a<g.length:=by obtain⟨w,h1,_⟩:=ht;exact zd h1
 have lb:b<g.length:=by obtain⟨w,_,h1⟩:=ht;exact zd h1
 have hc:=ztZ (g:=mkG g a inp op cur s) (i:=g.length+4) (inp:=inp) (r:=xi r) (op:=op) (cl:=⟨inp.p,rows,rates,next,lf,tm,ls,al⟩) (u:=zD cur) (m:=[.v .nils,.v .nils,xi 0,xi 0,xi 0,xi 0,xi 0,xi 0,xi 0]) ⟨by rw[hs];exact zjt,rfl,rfl,rfl,rfl⟩ hop ⟨hrl,hrr⟩ (a:=a) (b:=b) (t:=t) ht.app (by omega) (by omega) hl hp;refine Cl.ip rfl (zuJ rfl) fun Ψ hΨ=> ?_;simp;refine zb.go hc (fun x hx e=> .inr e) ?_;rintro v g' (⟨now,cm,cr,b2,rfl,rfl⟩|⟨e,X,hb,rfl,rfl⟩)
 ·simp;refine Gh.here (hΨ _ _ (.inl ⟨_,⟨tm,ls,al,now,cm,cr,b1,b2,rfl⟩,rfl,by simp,by simp[pC]⟩))
 ·simp;obtain⟨he,h2⟩:=zqb (r:=r) (cur:=cur) (left:=left) b1 hb;refine Gh.here (hΨ _ _ (.inr ⟨e,X,he,h2,rfl,by simp⟩))
theorem Y3(p:Pro):(zC p).length=41:=by simp[zC,pC,zP,zi,zD]
theorem zrb{g:XH}{a b ri:Nat}{t:List Rw}(ht:qO 145 140 g a b t)(hl:t.length≤1000)(inp:Inp){op:Bal}(hop:BalL op){l:List Vi}(hI:LosI l){reg:List Bu}(hr:Yp g ri reg)(hrl:reg.length≤400)(hd:jF ltB reg=true):
 Cl C (fun _=>False) 150 [.s (.ptr a 0 0),.agg (zP inp),.agg (zi op),.s (lpV l),.s (.ptr ri 0 0)] g fun u g'=>u=zkJ (ju t inp op l (zu ltB reg))∧g'=g:=by
 refine Cl.lv fun hG=> ?_;refine Cl.ip rfl (zuJ rfl) fun Ψ hΨ=> ?_;have bad:∀(e:Int) J,e≠0→ju t inp op l (zu ltB reg)=(e,zt,[])→Gh (fun _=>False) g Ψ (.tup [.agg YX,.s (.v .nilp),fi e]) (g++J):=fun e J he h=>
  Gh.pure (u':=zkJ (e,zt,[])) (.cons (.agg zku) (.cons (.s (by rw[zuV he];exact .lt (by simp))) (.cons .i .nil))) (hΨ _ _ ⟨by rw[h],rfl⟩)
 simp[zP,zi];refine zb.pure (Zh ..) ?_;simp;refine zc (fun k1=> ?_) (fun k1=> ?_)
 rotate_left
 ·simp;exact bad 1 _ (by decide) (by unfold ju;rw[zuT (.inl (by simp[k1]))])
 simp;refine zb.pure (Zc ..) ?_;simp;refine zc (fun k2=> ?_) (fun k2=> ?_)
 rotate_left
 ·simp;exact bad 1 _ (by decide) (by unfold ju;rw[zuT (.inr (.inl (by simp[k2])))])
 simp;refine zb.pure (z8 ..) ?_;simp;refine zc (fun k3=> ?_) (fun k3=> ?_)
 rotate_left
 ·simp;exact bad 1 _ (by decide) (by unfold ju;rw[zuT (.inr (.inr (by simp[k3])))])
 have k0:¬(¬zl inp.p=true∨¬zn inp.judge=true∨¬za inp.up=true):=by simp[k1,k2,k3]
 have e0:=Eq.refl (ju t inp op l (zu ltB reg))
 conv at e0=>rhs;unfold ju;rw[zuV k0]
 simp;refine zy 3 [6] (fun _=>False) (by decide) (by decide) ?_;simp only[zu8,zvE,zvj,zve];simp;refine zb.go0 (zsN hop) ?_;simp[zi];refine zy 4 [5,13] (fun _=>False) (by decide) (by decide) ?_;simp only[zu8,zvE,zvj,zve];simp;refine zb.go0 (zrj hr.app (by omega) hd) ?_;have hrows:(zu ltB reg).length=reg.length:=zJ ltB reg;rw[←hrows];generalize zu ltB reg=rows at *;simp;refine zb.go (zos (i:=g.length+4) (inp:=inp) (r:=xi 0) (o:=zi op) (c:=[xi 0,.v .nils,.v .nils,xi 0,xi 0,xi 0,xi 0,xi 0]) (u:=[xi 0,xi 0,xi 0,xi 0,xi 0,xi 0,.v .nils]) (m:=[.v .nils,.v .nils,xi 0,xi 0,xi 0,xi 0,xi 0,xi 0,xi 0]) ⟨by simp[pC,zP,zi],rfl,rfl,rfl,rfl⟩ ht.app hl (rows:=rows) (by omega) k1) (fun x hx e=>⟨.inl (by omega),.inr trivial⟩) ?_;rintro v g' (⟨r,next,rates,⟨q1,q2,q3⟩,rfl,rfl⟩|⟨rfl,rfl,q⟩)
 rotate_left
 ·simp;exact bad 7 _ (by decide) (by
   rw[e0];rcases q with q|q|q
   ·rw[q]
   ·cases jm t inp.j (inp.p.tdiv 4) inp.p with
    |none=>rfl
    |some r=>simp only[q,ne_eq,not_false_eq_true,if_true]
   ·cases jm t inp.j (inp.p.tdiv 4) inp.p with
    |none=>rfl
    |some r=>simp only[q,ite_self])
 rw[q1] at e0;simp only[q2,q3,ne_eq,not_true_eq_false,if_false] at e0;simp[pC,zP,zi];refine zb.go0 (zmk (RdX.lst _ op.b) (RdX.lst _ rows) hop.lb (by omega)) ?_;have hwl:=Zx op.b rows;have hol:=hop.lb;simp;refine zy 17 [6,13] (fun _=>False) (by decide) (by decide) ?_;simp only[zu8,zvE,zvj,zve];simp;refine zb.pure (zli ..) ?_;have hy:Yo inp.p=inp.p.tdiv 4:=by unfold Yo;rw[zuT k1]
 rw[hy];simp;refine zb.go0 (zs5 (znY _ l) hI inp.book inp.perm (J7 (zw op.b rows)) inp.cap inp.life (inp.p.tdiv 4) r) ?_;have htx:=fun res left=>zlb hI inp.book inp.perm (J7 (zw op.b rows)) inp.cap inp.life (inp.p.tdiv 4) r (res:=res) (left:=left);generalize ZA l inp.book inp.perm (J7 (zw op.b rows)) inp.cap inp.life (inp.p.tdiv 4) r=tx at *;obtain⟨e,cur,left⟩:=tx;by_cases he:e=0
 rotate_left
 ·simp only[he,not_false_eq_true,if_true] at e0;rw[show zj3 (e,cur,left)= .tup [.agg (zD qN),.s (.v .nilp),fi e] by simp[zj3,he]];simp[zD,qN,show(e !=0)=true by simpa using he];exact bad e _ he e0
 subst he;have hIl:=htx cur left rfl;have hll:=hIl.len;clear htx;simp only[not_true_eq_false,if_false] at e0;rw[show zj3 (0,cur,left)= .tup [.agg (zD cur),.s (lpV left),fi 0] by simp[zj3]];simp[zD];refine zdc 3 8 [13,16] (fun x=>x=g.length+4) (by decide) (by decide) (by decide) ?_;simp only[zu8,zvE,zvj,zve];simp;refine zb.go0 (zkF (znY _ left) (by omega) (fun v hv=>(hIl.m v hv).2)) ?_;simp;refine Lp.genU (σ:=List XV) 3 (fun k _=>[(107,fi k)]) (fun _ s=>mkG g a inp op cur s) (mkS t inp op rows rates r next (zA left) cur) (pC inp (xi r) (zi op) (zi ⟨inp.p,rows,rates,next,zA left,0,0,0⟩) (zD cur) [.v .nils,.v .nils,xi 0,xi 0,xi 0,xi 0,xi 0,xi 0,xi 0]) (by decide) rfl (by simp) rfl rfl ?_ ?_
 ·rintro q hq s hs hlt N hN;have la:a<g.length:=by
   obtain⟨w,h1,_⟩:=ht;exact zd h1
  have hrr:rates.length≤400:=by have:=ZS _ _ _ _ _ q3;rw[zvc] at this;omega
  have step:∀(f:Nat) (args:List XF),Cl C (fun x=>x=g.length+4) f args (mkG g a inp op cur s) (fun v g'=>(∃s',mkS t inp op rows rates r next (zA left) cur (q+1) s'∧v=fi 0∧g'=mkG g a inp op cur s'∧zr g.length s')∨∃e X,e≠0∧JA t inp op rows rates r next (zA left) cur left=(e,zt,[])∧v=fi e∧g'=(mkG g a inp op cur s).set (g.length+4) X)→∀K:XF→XH→Prop,(∀s',mkS t inp op rows rates r next (zA left) cur (q+1) s'→zr g.length s'→K (fi 0) (mkG g a inp op cur s'))→(∀e X,e≠0→JA t inp op rows rates r next (zA left) cur left=(e,zt,[])→K (fi e) ((mkG g a inp op cur s).set (g.length+4) X))→xCX C (fun i=>g.length≤i∨False) f args (mkG g a inp op cur s) K .mk:=by
   intro f args hc K h1 h2;refine zb.go hc (fun x hx e=> .inl (by omega)) ?_;rintro v g' (⟨s',k1,rfl,rfl,k2⟩|⟨e,J,k1,k2,rfl,rfl⟩)
   ·exact h1 s' k1 k2
   ·exact h2 e J k1 k2
  have hz:YX.length=41:=rfl;have hS:∀X,X.length=41→setX YX 0 X=X:=fun X h=>ZV (by rw[h,hz]);have go:∀s' fr,mkS t inp op rows rates r next (zA left) cur (q+1) s'→zr g.length s'→fr=qo [(10,some (.s (.ptr (g.length+3) 0 0))),(13,some (.s (.ptr (g.length+5) 0 0))),(17,some (.s (lpV left))),(105,some (.s (.sl (g.length+10) 0 0 3))),(106,some (fi 3)),(107,some (fi 0))] [(107,fi ((q+1:Nat):Int))]→N fr (mkG g a inp op cur s'):=fun s' fr h1 h2 hf=>
   hN s' _ _ h1 ⟨hf,⟨[],by simp⟩,by simp,by simp,zqU la h2⟩
  have fail:∀e J,e≠0→JA t inp op rows rates r next (zA left) cur left=(e,zt,[])→Gh (fun _=>False) g Ψ (.tup [.agg YX,.s (.v .nilp),fi e]) (g++J):=fun e J k1 k2=>bad e J k1 (e0.trans k2)
  clear hN bad hΨ e0 hG;obtain rfl|rfl|rfl:q=0∨q=1∨q=2:=by omega
  ·have h0:=zqV (g:=g) (a:=a) (t:=t) (inp:=inp) (op:=op) (rows:=rows) (rates:=rates) (r:=r) (next:=next) (lf:=zA left) (cur:=cur) (left:=left) (s:=s) (by omega) hs;simp[l150_0];refine step _ _ h0 _ (fun s' h1 h2=> ?_) (fun e X k1 k2=> ?_)
   ·simp[show IntKind.i64.wrap 1=1 from rfl,show IntKind.i64.wrap 2=2 from rfl,show IntKind.i64.wrap 3=3 from rfl];exact go s' _ h1 h2 (by simp)
   ·simp[show(e !=0)=true by simpa using k1,YX];exact fail e _ k1 k2
  ·have h0:=zqW (g:=g) (a:=a) (t:=t) (inp:=inp) (op:=op) (rows:=rows) (rates:=rates) (r:=r) (next:=next) (lf:=zA left) (cur:=cur) (left:=left) (s:=s) ht hl hop (by omega) hrr (by assumption) hs;simp[l150_0];refine step _ _ h0 _ (fun s' h1 h2=> ?_) (fun e X k1 k2=> ?_)
   ·simp[show IntKind.i64.wrap 1=1 from rfl,show IntKind.i64.wrap 2=2 from rfl,show IntKind.i64.wrap 3=3 from rfl];exact go s' _ h1 h2 (by simp)
   ·simp[show(e !=0)=true by simpa using k1,YX];exact fail e _ k1 k2
  ·have h0:=zqX (g:=g) (a:=a) (t:=t) (inp:=inp) (op:=op) (rows:=rows) (rates:=rates) (r:=r) (next:=next) (lf:=zA left) (cur:=cur) (left:=left) (s:=s) hs;simp[l150_0];refine step _ _ h0 _ (fun s' h1 h2=> ?_) (fun e X k1 k2=> ?_)
   ·simp[show IntKind.i64.wrap 1=1 from rfl,show IntKind.i64.wrap 2=2 from rfl,show IntKind.i64.wrap 3=3 from rfl];exact go s' _ h1 h2 (by simp)
   ·simp[show(e !=0)=true by simpa using k1,YX];exact fail e _ k1 k2
 ·rintro s ⟨tm,ls,al,now,cm,cr,b1,b2,b3,c,rfl,rfl⟩;have hq:=zeE (t:=t) (inp:=inp) (op:=op) (rows:=rows) (rates:=rates) (r:=r) (next:=next) (lf:=zA left) (cur:=cur) (left:=left) b1 b2;simp only[b3,if_true] at hq;generalize hP:(⟨inp,r,op,⟨inp.p,rows,rates,next,zA left,tm,ls,al⟩,cur,zw op.b rows,now,cm,cr,(yO op ⟨inp.p,rows,rates,next,zA left,tm,ls,al⟩ cur.tax inp.up cm cr).lm,(yO op ⟨inp.p,rows,rates,next,zA left,tm,ls,al⟩ cur.tax inp.up cm cr).lr,(yO op ⟨inp.p,rows,rates,next,zA left,tm,ls,al⟩ cur.tax inp.up cm cr).am,(yO op ⟨inp.p,rows,rates,next,zA left,tm,ls,al⟩ cur.tax inp.up cm cr).de,(yO op ⟨inp.p,rows,rates,next,zA left,tm,ls,al⟩ cur.tax inp.up cm cr).tot⟩:Pro)=P at *;clear hP;have hE:=Y3 P;have hT:List.take 41 (zC P)=zC P:=zvG (by omega);have hz:YX.length=41:=rfl;have hS:setX YX 0 (zC P)=zC P:=ZV (by rw[hE,hz]);have hlE:=Qy g.length P;have he2:=e0.trans (show _=(0,P,left) from hq);generalize hEE:zC P=E at *;simp[l150_0,hE,hT,hz,hS];subst hEE;exact Gh.pure (u':=zkJ (0,P,left)) (.cons (.agg (.lts hlE)) (.cons (.s (by rw[zuT rfl];exact .lt (by simp))) (.cons .i .nil))) (hΨ _ _ ⟨by rw[he2],rfl⟩)
end
end Go.Proofs.YtdmcfjkgopmlgaaGreatDoor.Ev.CA

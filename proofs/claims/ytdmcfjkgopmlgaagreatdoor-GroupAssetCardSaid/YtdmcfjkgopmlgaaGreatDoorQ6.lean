import Derived.Test.YtdmcfjkgopmlgaaGreatDoorQ5
set_option linter.unusedVariables false
set_option linter.unusedSimpArgs false
set_option linter.unusedSectionVars false
namespace Go.Proofs.YtdmcfjkgopmlgaaGreatDoor.Ev.CA
open Go
def za(n:Int):Bool:=decide (-100000000000≤n∧n≤100000000000)
def zm(n:Int):Bool:=decide (0≤n∧n≤1000000)
def zn(n:Int):Bool:=decide (0≤n∧n≤399)
def yO(n:Int):Bool:=decide (0≤n∧n≤99)
def zlH(n:Int):Prop:= -9223372036854775808≤n∧n<9223372036854775808
theorem zgI{n:Int}(hn:zlH n)(d:Int)(hd:1<d):IntKind.i64.wrap (n.tdiv d)=n.tdiv d:=by
 have a1:(n.tdiv d).natAbs≤n.natAbs:=by rw[Int.natAbs_tdiv];exact Nat.div_le_self _ _
 have a2:n.natAbs≤9223372036854775808:=by unfold zlH at hn;omega
 by_cases e:n= -9223372036854775808
 ·have:(n.tdiv d).natAbs<9223372036854775808:=by
   rw[Int.natAbs_tdiv]
   exact Nat.div_lt_of_lt_mul (by have:n.natAbs=9223372036854775808:=by omega
                                  rw[this];omega)
  exact zd (by omega) (by omega)
 ·have:n.natAbs<9223372036854775808:=by unfold zlH at hn;omega
  exact zd (by omega) (by omega)
def Ja(n r:Int):Prop:= -400000000000≤n∧n≤400000000000∧0≤r∧r≤10000000
instance (n r:Int):Decidable (Ja n r):=by unfold Ja;infer_instance
def ofF(n r:Int):Int:=if n<0 then(2*n*r-1000000).tdiv 2000000 else(2*n*r+1000000).tdiv 2000000
theorem Y6{n r N R:Int}(hN: -N≤n∧n≤N)(hR:0≤r∧r≤R)(h0:0≤N): -(N*R)≤n*r∧n*r≤N*R:=by have a:n*r≤N*r:=zxp hN.2 hR.1;have b:N*r≤N*R:=zwu hR.2 h0;have c: -N*r≤n*r:=zxp hN.1 hR.1;rw[Int.neg_mul] at c;omega
theorem zkB{n r:Int}(hn:0≤n)(hr:0≤r):ofF n r=if 1000000≤2*((n*r)%1000000) then n*r/1000000+1 else n*r/1000000:=by unfold ofF;have hx:0≤n*r:=zw6 hn hr;have e:2*n*r=2*(n*r):=Int.mul_assoc _ _ _;rw[zuH (by omega),e];generalize n*r=x at hx;rw[zvW (by omega)];split<;>omega
theorem zqQ{n r:Int}(hn:n<0):ofF n r= -ofF (-n) r:=by
 unfold ofF;rw[zuF hn,zuH (by omega)];have e:2*n*r-1000000= -(2* -n*r+1000000):=by rw[Int.mul_neg,Int.neg_mul];omega
 rw[e,Int.neg_tdiv]
def zg(n r:Int):Int:=if Ja n r then ofF n r else 0
theorem zD(n r:Int): -4000000000001≤zg n r∧zg n r≤4000000000001:=by
 unfold zg;split
 ·rename_i hk;unfold Ja at hk;have b:=Y6 (n:=n) (r:=r) (N:=400000000000) (R:=10000000) (by omega) (by omega) (by omega);have e:2*n*r=2*(n*r):=Int.mul_assoc _ _ _;unfold ofF;rw[e];generalize n*r=x at b;split
  ·have h:=zxq (2*x-1000000) 2000000;have h1:=zxD (2*x-1000000) (show(0:Int)<2000000 by omega);have h2:=zxB (2*x-1000000) (show(0:Int)<2000000 by omega);generalize(2*x-1000000).tdiv 2000000=q at *;generalize(2*x-1000000).tmod 2000000=m at *;omega
  ·have h:=zxq (2*x+1000000) 2000000;have h1:=zxD (2*x+1000000) (show(0:Int)<2000000 by omega);have h2:=zxB (2*x+1000000) (show(0:Int)<2000000 by omega);generalize(2*x+1000000).tdiv 2000000=q at *;generalize(2*x+1000000).tmod 2000000=m at *;omega
 ·omega
theorem Qb{n r:Int}(hn: -100000000000≤n∧n≤100000000000)(hr:0≤r∧r≤1000000): -100000000000≤zg n r∧zg n r≤100000000000:=by
 have key:∀n:Int,0≤n→n≤100000000000→0≤ofF n r∧ofF n r≤100000000000:=by intro n h0 h1;rw[zkB h0 hr.1];have b:=Y6 (n:=n) (r:=r) (N:=100000000000) (R:=1000000) (by omega) hr (by omega);have b0:0≤n*r:=zw6 h0 hr.1;generalize n*r=x at *;split<;>omega
 unfold zg;rw[zuF (by unfold Ja;omega)];by_cases h0:0≤n
 ·have:=key n h0 hn.2;omega
 ·have:=key (-n) (by omega) (by omega);rw[zqQ (by omega)];omega
theorem zn5{n r:Int}(hn:0≤n):0≤zg n r:=by
 unfold zg;split
 ·rename_i hk;unfold Ja at hk;rw[zkB hn (by omega)];have:=zw6 hn hk.2.2.1;generalize n*r=x at *;split<;>omega
 ·omega
theorem zjS{n:Int}(h:za n=true):IntKind.i64.wrap n=n:=by simp[za] at h;exact zd (by omega) (by omega)
theorem zbI{α:Type}(f:α→Int)(B:Int)(hB:0≤B):∀(l:List α),(∀a∈l,-B≤f a∧f a≤B)→-(B*l.length)≤(l.map f).sum∧(l.map f).sum≤B*l.length
 |[],_=>by simp
 |a::l,h=>by have ih:=zbI f B hB l fun x hx=>h x (by simp[hx]);have h0:=h a (by simp);simp only[zuS,zwh,zvk,zwk,zwV];omega
theorem Qz{α:Type}(f:α→Int)(l:List α)(s:Int):l.foldl (fun s a=>s+f a) s=s+(l.map f).sum:=by
 induction l generalizing s with
 |nil=>simp
 |cons a l ih=>simp[ih];omega
structure Rw where
 j:ByteArray
 y:Int
 r:Int
 p:Int
structure Bu where
 c:Int
 y:Int
 n:Int
structure Vi where
 o:Int
 e:Int
 n:Int
structure Pa where
 s:ByteArray
 b:ByteArray
 n:Int
structure Li where
 a:Int
 n:Int
structure It where
 k:Int
 n:Int
structure Jo where
 seq:Int
 id:ByteArray
 p:Int
 kind:Int
 of:Int
 l:List Li
structure Bal where
 p:Int
 b:List Bu
 r:List Int
 next:Int
 left:Int
 temp:Int
 loss:Int
 allow:Int
structure Inp where
 j:ByteArray
 p:Int
 book:Int
 perm:Int
 judge:Int
 cap:Int
 life:Int
 up:Int
structure Res where
 income:Int
 expired:Int
 used:Int
 new:Int
 taxable:Int
 tax:Int
 vec:List Int
structure Wa where
 c:Int
 y:Int
 o:Int
 m:Int
 z:Int
structure Pro where
 inp:Inp
 rate:Int
 op:Bal
 cl:Bal
 cur:Res
 rows:List Wa
 now:List Int
 tm:Int
 tr:Int
 lm:Int
 lr:Int
 am:Int
 deferred:Int
 total:Int
def zao(b x:Rw):Bool:=decide (x.y >b.y)||(x.y==b.y&&decide (x.p >b.p))
def QQ(j:ByteArray)(y at':Int)(b:Option Rw)(x:Rw):Option Rw:=
 if x.j==j&&decide (x.p≤at')&&decide (x.y≤y) then match b with
  |none=>some x
  |some b=>if zao b x then some x else some b
 else b
def jo(t:List Rw)(j:ByteArray)(y at':Int):Option Int:=(t.foldl (QQ j y at') none).map (·.r)
def Jc(j:ByteArray)(y p:Int)(x:Rw):Bool:=x.j==j&&(x.y==y&&x.p==p)
def jG(t:List Rw)(j:ByteArray)(y r p:Int):Int×List Rw:=
 if j.size=0∨¬yO y=true∨¬zm r=true∨¬zn p=true then(1,t)
 else if t.any (Jc j y p) then(4,t)
 else if 24≤t.length then(5,t)
 else(0,t++[⟨j,y,r,p⟩])
def yU(t:List Rw)(j:ByteArray)(p:Int):Int×Int:=
 if zn p then match jo t j (min (p.tdiv 4+1) 99) p with
  |some r=>(r,0)
  |none=>(0,7)
 else(0,1)
def zV(t:List Rw)(j:ByteArray)(p:Int):List Int→Option (List Int)
 |[]=>some []
 |y::l=>match jo t j (max y (p.tdiv 4)) p with
  |some r=>(zV t j p l).map (r:: ·)
  |none=>none
def jA(c y:Int)(b:Bu):Bool:=b.c==c&&b.y==y
def getD(l:List Bu)(c y:Int):Int:=match l.find? (jA c y) with
 |some b=>b.n
 |none=>0
def yH(l:List Bu):Int:=(l.map (·.n)).sum
def ltB(a b:Bu):Bool:=decide (a.c<b.c)||(a.c==b.c&&decide (a.y<b.y))
def insB(b:Bu):List Bu→List Bu
 |[]=>[b]
 |x::r=>if ltB b x then b::x::r else x::insB b r
def zic(l:List Bu)(c y n:Int):List Bu:=
 let m:=l.filter fun b=> !jA c y b
 if n=0 then m else insB ⟨c,y,n⟩ m
def yL(c y:Int):Bool:=decide (1≤c∧c≤9)&&yO y
def zkv(l:List Bu)(c y n:Int):Int×List Bu:=
 if¬yL c y=true∨¬za n=true then(1,l)
 else if¬za (getD l c y+n)=true∨¬za (yH l+n)=true then(6,l)
 else let m:=zic l c y (getD l c y+n)
  if 12<m.length then(5,l) else(0,m)
def zaW(l:List Bu)(c y c2 y2 n:Int):Int×List Bu:=
 if¬yL c y=true∨¬yL c2 y2=true∨¬za n=true∨(c=c2∧y=y2) then(1,l)
 else if¬za (getD l c y-n)=true∨¬za (getD l c2 y2+n)=true then(6,l)
 else let m:=zic (zic l c y (getD l c y-n)) c2 y2 (getD l c2 y2+n)
  if 12<m.length then(5,l) else(0,m)
def zeL:List (Int×Int):=(List.range 9).flatMap fun(c:Nat)=>(List.range 100).map fun(y:Nat)=>((c:Int)+1,(y:Int))
def z6(o c:List Bu):List Wa:=(zeL.filter fun k=>getD o k.1 k.2 !=0||getD c k.1 k.2 !=0).map fun k=>⟨k.1,k.2,getD o k.1 k.2,getD c k.1 k.2-getD o k.1 k.2,getD c k.1 k.2⟩
def zB(l:List Vi):Int:=(l.map (·.n)).sum
def ltV(a b:Vi):Bool:=decide (a.e<b.e)||(a.e==b.e&&decide (a.o<b.o))
def insV(b:Vi):List Vi→List Vi
 |[]=>[b]
 |x::r=>if ltV b x then b::x::r else x::insV b r
def Yt(o e:Int)(v:Vi):Bool:=v.o==o&&v.e==e
def zhx(l:List Vi)(o e n:Int):Int×List Vi:=
 if¬yO o=true∨e<o∨198<e∨n<1∨100000000000<n then(1,l)
 else if¬za (zB l+n)=true then(6,l)
 else if l.any (Yt o e) then(0,l.map fun v=>if Yt o e v then{v with n:=v.n+n} else v)
 else if 12≤l.length then(5,l)
 else(0,insV ⟨o,e,n⟩ l)
def zkj(l:List Vi)(y:Int):Int:=zB (l.filter fun v=>decide (v.e<y))
def zdu(l:List Vi)(y:Int):List Vi:=l.filter fun v=> !decide (v.e<y)
def zcD:List Vi→Int→Int→List Int
 |[],_,_=>[]
 |v::r,y,room=>let n:=if y≤v.e then min v.n (max room 0) else 0
  n::zcD r y (room-n)
def za5(l:List Vi)(u:List Int):List Vi:=((l.zip u).map fun x=>{x.1 with n:=x.1.n-x.2}).filter fun v=>v.n !=0
def zi0(n r:Int):Int:=if 0≤n then(n*r).tdiv 1000000 else 0
def zgH(l:List Vi)(book perm moved cap life year r:Int):Int×Res×List Vi:=
 let none:Res:=⟨0,0,0,0,0,0,[]⟩
 if¬zm cap=true∨¬zm r=true∨¬yO life=true∨¬yO year=true then(1,none,l)
 else
  let n:=book+perm-moved
  if¬za book=true∨¬za perm=true∨¬za moved=true∨¬za n=true then(6,none,l)
  else
   let k:=zdu l year;let gone:=zkj l year
   if 0<n then
    let v:=zcD k year (zi0 n cap)
    (0,⟨n,gone,v.sum,0,n-v.sum,zg (n-v.sum) r,v⟩,za5 k v)
   else if n<0 then
    match zhx k year (year+life) (-n) with
    |(0,k')=>(0,⟨n,gone,0,-n,0,zg 0 r,[]⟩,k')
    |(e,_)=>(e,none,l)
   else(0,⟨n,gone,0,0,0,zg 0 r,[]⟩,k)
def zl(n r:Int):Int×Int:=if 0≤n∧n≤100000000000∧zm r=true then(zg n r,0) else(0,1)
def jx:List Bu→List Int→Int
 |b::l,r::s=>jx l s-zg b.n r
 |_,_=>0
def zk3:Bal:=⟨0,[],[],0,0,0,0,0⟩
def Zw:Bal:=⟨-1,[],[],0,0,0,0,0⟩
def zr5:Inp:=⟨⟨#[]⟩,0,0,0,0,0,0,0⟩
def qH:Res:=⟨0,0,0,0,0,0,[]⟩
def zr:Pro:=⟨zr5,0,zk3,zk3,qH,[],[],0,0,0,0,0,0,0⟩
def ZZ:List Bu→List Int→Int→Int→Int→Int
 |b::l,r::s,c,y,now=>if jA c y b then r else ZZ l s c y now
 |_,_,_,_,now=>now
def yG:List Wa→List Int→Int
 |w::l,r::s=>zg w.z r-zg w.o r+yG l s
 |_,_=>0
def yD:List Wa→List Int→List Int→Int
 |w::l,was::s,now::t=>zg w.o now-zg w.o was+yD l s t
 |_,_,_=>0
def yI(op:Bal):List Wa→List Int→List Int
 |w::l,n::s=>ZZ op.b op.r w.c w.y n::yI op l s
 |_,_=>[]
def QO(t:List Rw)(inp:Inp)(op:Bal)(l:List Vi)(reg:List Bu):Int×Pro×List Vi:=
 if¬zn inp.p=true∨¬zm inp.judge=true∨¬za inp.up=true then(1,zr,l)
 else
  let y:=inp.p.tdiv 4
  match jo t inp.j y inp.p with
  |none=>(7,zr,l)
  |some r=>
   match yU t inp.j inp.p with
   |(next,0)=>
    match zV t inp.j inp.p (reg.map (·.y)) with
    |none=>(7,zr,l)
    |some rates=>
     let rows:=z6 op.b reg
     match zgH l inp.book inp.perm ((rows.map (·.m)).sum) inp.cap inp.life y r with
     |(0,cur,left)=>
      let temp:=jx reg rates
      if¬za temp=true then(6,zr,l)
      else
       let lf:=zB left
       match zl lf next with
       |(loss,0)=>
        match zl loss inp.judge with
        |(al,0)=>
         match zV t inp.j inp.p (rows.map (·.y)) with
         |none=>(7,zr,l)
         |some now=>
          let olds:=yI op rows now;let tm:=yG rows now;let tr:=yD rows olds now
          if¬za tm=true∨¬za tr=true then(6,zr,l)
          else
           let lr:=zg op.left op.next-zg op.left next
           let lm:=op.loss-loss-lr;let am:=op.allow- -al;let de:=tm+tr+lm+lr+am;let tot:=cur.tax+de+inp.up;let p:Pro:=⟨inp,r,op,⟨inp.p,reg,rates,next,lf,temp,loss,-al⟩,cur,rows,now,tm,tr,lm,lr,am,de,tot⟩
           if[lm,lr,am,cur.tax+inp.up,temp-op.temp,loss-op.loss,-al-op.allow,de,tot].all za then(0,p,left) else(6,zr,l)
        |(_,e)=>(e,zr,l)
       |(_,e)=>(e,zr,l)
     |(e,_,_)=>(e,zr,l)
   |(_,e)=>(e,zr,l)
def jj(l:List Li)(a:Int):Int:=((l.filter fun x=>x.a==a).map (·.n)).sum
def qZ(l:List Li):List Li:=((List.range 7).map fun(k:Nat)=>(⟨(k:Int)+1,jj l ((k:Int)+1)⟩:Li)).filter fun x=>x.n !=0
def yV(p:Pro):List Li:=qZ [⟨1,p.cur.tax⟩,⟨7,p.inp.up⟩,⟨2,-p.cur.tax-p.inp.up⟩,⟨3,p.deferred⟩,⟨4,p.cl.temp-p.op.temp⟩,⟨5,p.cl.loss-p.op.loss⟩,⟨6,p.cl.allow-p.op.allow⟩]
def yJ(l:List Li):List Li:=l.map fun x=>⟨x.a,-x.n⟩
def jV(rate:Int):List Wa→List Int→Int
 |w::l,r::s=>zg w.m r-zg w.m rate+jV rate l s
 |_,_=>0
def zbp(p:Pro):List It:=
 let n:=p.cur.used-p.cur.new;let l:List It:=[⟨1,zg p.inp.book p.rate⟩,⟨2,zg p.inp.perm p.rate⟩,⟨3,jV p.rate p.rows p.now+(zg n p.cl.next-zg n p.rate)⟩,⟨4,p.tr+p.lr⟩,⟨5,p.am⟩,⟨6,zg p.cur.expired p.cl.next⟩,⟨7,p.inp.up⟩]
 l++[⟨8,p.total-(l.map (·.n)).sum⟩]
def jD:Int→List Li→Bool
 |_,[]=>true
 |a,x::l=>decide (a<x.a∧x.a≤7)&&(x.n !=0&&za x.n)&&jD x.a l
def yu(l:List Li):Bool:=decide (l.length≤20)&&jD 0 l&&(l.map (·.n)).sum==0
def ofJ(id:ByteArray)(upto:Int)(s:List Jo):List Li:=(s.filter fun j=>j.id==id&&decide (j.p≤upto)).flatMap (·.l)
def zdZ(a b:List Li):Bool:=(a.map fun x=>(x.a,x.n))==(b.map fun x=>(x.a,x.n))
def jC(s:List Jo)(id:ByteArray)(p kind of:Int)(l:List Li):Int×Int×List Jo:=
 if id.size=0∨¬zn p=true∨(kind≠1∧kind≠2)∨(kind=1∧of≠0) then(0,1,s)
 else
  let was:=s[(of-1).toNat]?
  let no:Int:=if kind=2 then match was with
   |some j=>if of<1∨¬(j.id==id&&j.p==p&&j.kind==1)=true then 3 else if s.any fun k=>k.of==of then 4 else 0
   |none=>3
   else 0
  if no≠0 then(0,no,s)
  else if¬yu l=true∨(kind=2∧¬zdZ l (yJ ((was.map (·.l)).getD []))=true) then(0,2,s)
  else if 200≤s.length then(0,5,s)
  else if¬(qZ (ofJ id 399 s++l)).all (fun x=>za x.n)=true then(0,6,s)
  else((s.length:Int)+1,0,s++[⟨(s.length:Int)+1,id,p,kind,of,l⟩])
structure Sta where
 book:Int
 perm:Int
 judge:Int
 cap:Int
 life:Int
 up:Int
 reg:List Bu
 l:List Vi
 filed:List Int
structure Clo where
 was:Sta
 p:Pro
 seq:Int
structure Ent where
 id:ByteArray
 j:ByteArray
 fx:Int
 first:Int
 touched:List Bool
 s:Sta
 cs:List Clo
def J9(e:Ent):Int:=e.first+(e.touched.length:Int)-1
def Qd(e:Ent)(p:Int):Option Pro:=(e.cs.find? fun c=>c.p.inp.p==p).map (·.p)
def zcz(l:List Bool):List Bool:=l.dropLast++[true]
def ziC(s n:Int):Int×Int:=if¬za n=true then(1,s) else if¬za (s+n)=true then(6,s) else(0,s+n)
structure Cmd where
 k:Int
 id:ByteArray
 id2:ByteArray
 j:ByteArray
 c:Int
 d:Int
 y:Int
 z:Int
 p:Int
 n:Int
 r:Int
 x:Int
def zkd(e:Ent)(p n:Int):Int×Sta:=
 match Qd e p with
 |none=>(3,e.s)
 |some q=>
  if e.s.filed.contains p then(4,e.s)
  else match zl n q.rate with
  |(v,0)=>
   let w:=v-q.cur.tax
   if¬za w=true∨¬za (e.s.up+w)=true then(6,e.s) else(0,{e.s with up:=e.s.up+w,filed:=e.s.filed++[p]})
  |(_,er)=>(er,e.s)
def zkc(e:Ent)(m:Cmd):Int×Sta:=
 if m.k=3 then let a:=ziC e.s.book m.n;(a.1,{e.s with book:=a.2})
 else if m.k=4 then let a:=ziC e.s.perm m.n;(a.1,{e.s with perm:=a.2})
 else if m.k=5 then let a:=zkv e.s.reg m.c m.y m.n;(a.1,{e.s with reg:=a.2})
 else if m.k=6 then let a:=zaW e.s.reg m.c m.y m.d m.z m.n;(a.1,{e.s with reg:=a.2})
 else if m.k=7 then if zm m.r then(0,{e.s with judge:=m.r}) else(1,e.s)
 else if m.k=8 then if zm m.r&&yO m.y then(0,{e.s with cap:=m.r,life:=m.y}) else(1,e.s)
 else zkd e m.p m.n
def zc7(e:Ent)(m:Cmd):Int×Ent:=
 if¬zn (J9 e)=true then(8,e)
 else match zkc e m with
  |(0,s)=>(0,{e with s:=s,touched:=zcz e.touched})
  |(er,_)=>(er,e)
def Qa(e:Ent):Bal:=match e.cs.getLast? with
 |some c=>c.p.cl
 |none=>Zw
def zcT(t:List Rw)(js:List Jo)(e:Ent):Int×Ent×List Jo:=
 if¬zn (J9 e)=true then(8,e,js)
 else
  let s:=e.s
  match QO t ⟨e.j,J9 e,s.book,s.perm,s.judge,s.cap,s.life,s.up⟩ (Qa e) s.l s.reg with
  |(0,p,left)=>
   match jC js e.id (J9 e) 1 0 (yV p) with
   |(seq,0,js')=>(0,{e with s:={s with book:=0,perm:=0,up:=0,l:=left},cs:=e.cs++[⟨s,p,seq⟩],touched:=e.touched++[false]},js')
   |(_,er,_)=>(er,e,js)
  |(er,_,_)=>(er,e,js)
def zaX(js:List Jo)(e:Ent):Int×Ent×List Jo:=
 if e.touched.length≤1 then(3,e,js)
 else if e.touched.getLast? =some true then(8,e,js)
 else match e.cs.getLast? with
  |none=>(3,e,js)
  |some c=>
   match jC js e.id c.p.inp.p 2 c.seq (yJ (yV c.p)) with
   |(_,0,js')=>(0,{e with s:=c.was,cs:=e.cs.dropLast,touched:=e.touched.dropLast},js')
   |(_,er,_)=>(er,e,js)
structure Grp where
 t:List Rw
 js:List Jo
 es:List Ent
 c:List Pa
def zjj:Grp:=⟨[],[],[],[]⟩
def qJ(s b:ByteArray)(x:Pa):Bool:=x.s==s&&x.b==b
def Zl(c:List Pa)(s b:ByteArray):Int:=match c.find? (qJ s b) with
 |some x=>x.n
 |none=>0
def ltS(a b:ByteArray):Bool:=Op.bytesLess a.toList b.toList
def ltP(a b:Pa):Bool:=ltS a.s b.s||(a.s==b.s&&ltS a.b b.b)
def zhj(b:Pa):List Pa→List Pa
 |[]=>[b]
 |x::r=>if ltP b x then b::x::r else x::zhj b r
def qR(c:List Pa)(s b:ByteArray)(n:Int):Int×List Pa:=
 if s.size=0∨b.size=0∨s=b∨¬za n=true then(1,c)
 else
  let v:=Zl c s b+n
  if v<0∨¬za v=true then(6,c)
  else
   let m:=c.filter fun x=> !qJ s b x;let m:=if v=0 then m else zhj ⟨s,b,v⟩ m
   if 8<m.length then(5,c) else(0,m)
def Jp(g:Grp)(id:ByteArray):Option Ent:=g.es.find? fun e=>e.id==id
def zoa(g:Grp)(e:Ent):Grp:={g with es:=g.es.map fun x=>if x.id==e.id then e else x}
def zkm(g:Grp)(m:Cmd):Int×Grp:=
 if(Jp g m.id).isSome then(4,g)
 else if 4≤g.es.length then(5,g)
 else if m.x<1∨10000000<m.x then(1,g)
 else if m.id.size=0∨m.j.size=0∨¬zm m.r=true∨¬yO m.y=true∨¬zn m.p=true then(1,g)
 else(0,{g with es:=g.es++[⟨m.id,m.j,m.x,m.p,[false],⟨0,0,0,m.r,m.y,0,[],[],[]⟩,[]⟩]})
def doD(g:Grp)(m:Cmd):Int×Grp:=
 if m.k=1 then let a:=jG g.t m.j m.y m.r m.p;(a.1,{g with t:=a.2})
 else if m.k=2 then zkm g m
 else if m.k=10 then
  if(Jp g m.id).isNone∨(Jp g m.id2).isNone then(3,g)
  else let a:=qR g.c m.id m.id2 m.n;(a.1,{g with c:=a.2})
 else match Jp g m.id with
  |none=>(3,g)
  |some e=>
   if m.k=11 then let a:=zcT g.t g.js e;(a.1,{zoa g a.2.1 with js:=a.2.2})
   else if m.k=12 then let a:=zaX g.js e;(a.1,{zoa g a.2.1 with js:=a.2.2})
   else let a:=zc7 e m;(a.1,zoa g a.2)
end Go.Proofs.YtdmcfjkgopmlgaaGreatDoor.Ev.CA
namespace Go.Proofs.YtdmcfjkgopmlgaaGreatDoor.Ev.CA
open Go
section
attribute [-simp] List.length_flatMap getElem?_pos
abbrev xi(n:Int):XV:= .v (.int .i64 n)
abbrev xb(b:Bool):XV:= .v (.bool b)
abbrev xs(s:ByteArray):XV:= .v (.str s)
abbrev fi(n:Int):XF:= .s (xi n)
abbrev fb(b:Bool):XF:= .s (xb b)
abbrev fs(s:ByteArray):XF:= .s (xs s)
theorem yE{k n:Nat}(hk:k<n)(hn:n<1000000000):IntKind.i64.wrap ((k:Int)+1)=(k:Int)+1:=zd (by omega) (by omega)
theorem ya(n:Int):Pure C 100 [fi n] (fb (za n)):=by
 refine Pure.intro0 (e:=e100) rfl (zuv rfl) (by simp) fun g Ψ h0 hJ=> ?_;simp
 repeat' first|(refine zc (fun hc=> ?_) (fun hc=> ?_)<;>try simp)
 all_goals(simp at *;exact qV h0 (by simp[za, *]<;>omega))
theorem q8(n:Int):Pure C 64 [fi n] (fb (zm n)):=by
 refine Pure.intro0 (e:=e64) rfl (zuv rfl) (by simp) fun g Ψ h0 hJ=> ?_;simp
 repeat' first|(refine zc (fun hc=> ?_) (fun hc=> ?_)<;>try simp)
 all_goals(simp at *;exact qV h0 (by simp[zm, *]<;>omega))
theorem zok(n:Int):Pure C 108 [fi n] (fb (zm n)):=by
 refine Pure.intro0 (e:=e108) rfl (zuv rfl) (by simp) fun g Ψ h0 hJ=> ?_;simp
 repeat' first|(refine zc (fun hc=> ?_) (fun hc=> ?_)<;>try simp)
 all_goals(simp at *;exact qV h0 (by simp[zm, *]<;>omega))
theorem Zd(n:Int):Pure C 30 [fi n] (fb (zn n)):=by
 refine Pure.intro0 (e:=e30) rfl (zuv rfl) (by simp) fun g Ψ h0 hJ=> ?_;simp
 repeat' first|(refine zc (fun hc=> ?_) (fun hc=> ?_)<;>try simp)
 all_goals(simp at *;exact qV h0 (by simp[zn, *]<;>omega))
theorem zkI(n:Int):Pure C 109 [fi n] (fb (zn n)):=by
 refine Pure.intro0 (e:=e109) rfl (zuv rfl) (by simp) fun g Ψ h0 hJ=> ?_;simp
 repeat' first|(refine zc (fun hc=> ?_) (fun hc=> ?_)<;>try simp)
 all_goals(simp at *;exact qV h0 (by simp[zn, *]<;>omega))
theorem zso(n:Int):Pure C 107 [fi n] (fb (yO n)):=by
 refine Pure.intro0 (e:=e107) rfl (zuv rfl) (by simp) fun g Ψ h0 hJ=> ?_;simp
 repeat' first|(refine zc (fun hc=> ?_) (fun hc=> ?_)<;>try simp)
 all_goals(simp at *;exact qV h0 (by simp[yO, *]<;>omega))
theorem ofX(n r:Int):Pure C 82 [fi n,fi r] (.tup [fi (zg n r),fb (decide (Ja n r))]):=by
 refine Pure.intro0 (e:=e82) rfl (zuv rfl) (by simp) fun g Ψ h0 hJ=> ?_;simp
 repeat' first|(refine zc (fun hc=> ?_) (fun hc=> ?_)<;>try simp)
 all_goals(refine qV h0 ?_;simp at *)
 ·simp[zg,Ja];omega
 ·simp[zg,Ja];omega
 ·simp[zg,Ja];omega
 ·simp[zg,Ja];omega
 all_goals
  have hk:Ja n r:=by unfold Ja;omega
  have b:=Y6 (n:=n) (r:=r) (N:=400000000000) (R:=10000000) (by omega) (by omega) (by omega);have e:2*n*r=2*(n*r):=Int.mul_assoc _ _ _;have w1:IntKind.i64.wrap (2*n)=2*n:=zd (by omega) (by omega);have w2:IntKind.i64.wrap (2*n*r)=2*n*r:=by rw[e];exact zd (by omega) (by omega)
  refine⟨?_,hk⟩;rw[w1,w2];unfold zg ofF;rw[zuF hk]
 ·rw[zuF (by assumption),zd (n:=2*n*r-1000000) (by rw[e];omega) (by rw[e];omega)];exact zgI (by rw[e];unfold zlH;omega) 2000000 (by omega)
 ·rw[zuH (by omega),zd (n:=2*n*r+1000000) (by rw[e];omega) (by rw[e];omega)];exact zgI (by rw[e];unfold zlH;omega) 2000000 (by omega)
theorem zkH(n r:Int):Pure C 83 [fi n,fi r] (fi (zg n r)):=by
 refine Pure.intro0 (e:=e83) rfl (zuv rfl) (by simp) fun g Ψ h0 hJ=> ?_;simp
 repeat' first|(refine zc (fun hc=> ?_) (fun hc=> ?_)<;>try simp)|(refine zb.pure (ofX ..) ?_;try simp)
 exact h0
theorem zmN(n r o:Int):Pure C 160 [fi n,fi r,fi o] (fi (zg n r-zg n o)):=by
 refine Pure.intro0 (e:=e160) rfl (zuv rfl) (by simp) fun g Ψ h0 hJ=> ?_;have b1:=zD n r;have b2:=zD n o;simp
 repeat' first|(refine zc (fun hc=> ?_) (fun hc=> ?_)<;>try simp)|(refine zb.pure (zkH ..) ?_;try simp)
 rw[zd (by omega) (by omega)];exact h0
def Yp(p:Int):Int:=if zn p=true then p.tdiv 4 else -1
theorem ziu(p:Int): -1≤Yp p∧Yp p≤99:=by
 unfold Yp;split
 ·rename_i h;simp[zn] at h;rw[zvW h.1];omega
 ·omega
theorem div4{p:Int}(h:zn p=true):IntKind.i64.wrap (p.tdiv 4)=p.tdiv 4:=by simp[zn] at h;have:p.tdiv 4=p/4:=zvW h.1;rw[this];exact zd (by omega) (by omega)
theorem zk1(p:Int):Pure C 167 [fi p] (fi (Yp p)):=by
 refine Pure.intro0 (e:=e167) rfl (zuv rfl) (by simp) fun g Ψ h0 hJ=> ?_;simp
 repeat' first|(refine zc (fun hc=> ?_) (fun hc=> ?_)<;>try simp)|(refine zb.pure (Zd ..) ?_;try simp)
 ·rw[div4 hc];exact qV h0 (by simp[Yp,hc])
 ·exact qV h0 (by simp[Yp,hc])
theorem lossP(n r:Int):Pure C 285 [fi n,fi r] (.tup [fi (zl n r).1,fi (zl n r).2]):=by
 refine Pure.intro0 (e:=e285) rfl (zuv rfl) (by simp) fun g Ψ h0 hJ=> ?_;simp
 repeat' first|(refine zc (fun hc=> ?_) (fun hc=> ?_)<;>try simp)|(refine zb.pure (ya ..) ?_;try simp)|(refine zb.pure (q8 ..) ?_;try simp)|(refine zb.pure (ofX ..) ?_;try simp)
 all_goals(refine qV h0 ?_;simp[zl,za,zm,Ja] at *;(try (refine⟨?_,?_⟩))<;>split<;>simp<;>omega)
def jY(n r:Int):Int×Int:=if 0≤n∧n≤100000000000∧zm r=true then(-zg n r,0) else(0,1)
theorem zsw(n r:Int):Pure C 286 [fi n,fi r] (.tup [fi (jY n r).1,fi (jY n r).2]):=by
 refine Pure.intro0 (e:=e286) rfl (zuv rfl) (by simp) fun g Ψ h0 hJ=> ?_;have b:=zD n r;simp
 repeat' first|(refine zc (fun hc=> ?_) (fun hc=> ?_)<;>try simp[zd (n:= -zg n r) (by omega) (by omega)])|(refine zb.pure (ya ..) ?_;try simp[zd (n:= -zg n r) (by omega) (by omega)])|(refine zb.pure (q8 ..) ?_;try simp[zd (n:= -zg n r) (by omega) (by omega)])|(refine zb.pure (ofX ..) ?_;try simp[zd (n:= -zg n r) (by omega) (by omega)])
 all_goals(refine qV h0 ?_;simp[jY,za,zm,Ja] at *;(try (refine⟨?_,?_⟩))<;>split<;>simp<;>omega)
theorem zmc(n r:Int):zl n r=if n<0 then(0,1) else if za n=true then if zm r=true then(zg n r,0) else(0,1) else(0,1):=by
 unfold zl;by_cases h1:n<0
 ·rw[zuF h1,zuH (by omega)]
 ·by_cases h2:n≤100000000000
  ·have:za n=true:=by simp[za];omega
   simp[h1,h2,this,show 0≤n by omega]
  ·have:za n=false:=by simp[za];omega
   simp[h1,h2,this]
def qN(n r tax:Int):Int×Int:=if(zl n r).2=0 then(if za ((zl n r).1-tax)=true then((zl n r).1-tax,0) else(0,6)) else(0,(zl n r).2)
theorem trueX(n r tax:Int)(ht:za tax=true):Pure C 215 [fi n,fi r,fi tax] (.tup [fi (qN n r tax).1,fi (qN n r tax).2]):=by
 refine Pure.intro0 (e:=e215) rfl (zuv rfl) (by simp) fun g Ψ h0 hJ=> ?_;have b:=zD n r;have w:IntKind.i64.wrap (zg n r-tax)=zg n r-tax:=by simp[za] at ht;exact zd (by omega) (by omega)
 simp
 repeat' first|(refine zc (fun hc=> ?_) (fun hc=> ?_)<;>try simp[w,ht])|(refine zb.pure (ya ..) ?_;try simp[w,ht])|(refine zb.pure (q8 ..) ?_;try simp[w,ht])|(refine zb.pure (ofX ..) ?_;try simp[w,ht])
 all_goals(refine qV h0 ?_;simp at *)
 all_goals(clear h0 hJ;unfold qN;rw[zmc];(repeat' split)<;>simp_all<;>omega)
section
variable {α:Type} {enc:α→List XV} {t z:Nat}
def RdX(g:XH)(t z:Nat)(enc:α→List XV)(v:XV)(l:List α):Prop:=
 (l=[]∧(v= .v .nils∨v= .nl))∨v= .lst t z l.length (l.flatMap enc)∨∃i w o cs,v= .sl i w o l.length∧zO g i w=some (t,z,cs)∧(o+l.length)*z≤cs.length∧(cs.drop (o*z)).take (l.length*z)=l.flatMap enc
theorem RdX.lst(g:XH)(l:List α):RdX g t z enc (.lst t z l.length (l.flatMap enc)) l:= .inr (.inl rfl)
theorem RdX.sl(he:∀a,(enc a).length=z){g:XH}{i w:Nat}{l:List α}(h:g[i]? =some (.own w t z (l.flatMap enc))):RdX g t z enc (.sl i w 0 l.length) l:=by
 refine .inr (.inr ⟨i,w,0,_,rfl,(by simp only[zO,h,if_true];rfl),?_,?_⟩)
 ·rw[zf he,zve];exact zuB _
 ·rw[zvP,zu2,←zf he,zu3]
theorem RdX.len{g:XH}{v:XV}{l:List α}(r:RdX g t z enc v l):Y4 g (.s v)=some l.length:=by
 rcases r with⟨rfl,rfl|rfl⟩|rfl|⟨i,w,o,cs,rfl,h,_⟩
 ·rfl
 ·rfl
 ·rfl
 ·rfl
theorem RdX.el{g:XH}{v:XV}{l:List α}(r:RdX g t z enc v l):elX g t z (.s v)=some (l.length,l.flatMap enc):=by
 rcases r with⟨rfl,rfl|rfl⟩|rfl|⟨i,w,o,cs,rfl,h,h1,h2⟩
 ·rfl
 ·rfl
 ·cases l with
  |nil=>rfl
  |cons a l=>simp[elX]
 ·simp only[elX,h,and_self,if_true];rw[zuF h1,zat,h2]
theorem RdX.at(he:∀a,(enc a).length=z)(hz:z≠0){g:XH}{v:XV}{l:List α}(r:RdX g t z enc v l){k:Nat}(hk:k<l.length):∃p cs o,jQ g t z (k:Int) (.s v)=some p∧rdX g (.s p)=some (cs,o)∧o+z≤cs.length∧(cs.drop o).take z=enc l[k]∧(z=1→∀x,enc l[k]=[x]→cs[o]? =some x):=by
 have fin:∀(cs:List XV) o,o+z≤cs.length→(cs.drop o).take z=enc l[k]→o+z≤cs.length∧(cs.drop o).take z=enc l[k]∧(z=1→∀x,enc l[k]=[x]→cs[o]? =some x):=fun cs o h1 h2=>by refine⟨h1,h2,?_⟩;rintro rfl x hx;rw[hx] at h2;have:=congrArg (fun l=>l[0]?) h2;simpa[zu8,zvE] using this
 obtain⟨a1,a2,_⟩:=atX he hk;rcases r with⟨rfl,_⟩|rfl|⟨i,w,o,cs,rfl,h,h1,h2⟩
 ·simp at hk
 ·exact⟨.lp (l.flatMap enc) (k*z),_,_,by simp[jQ,hk],rfl,fin _ _ a1 a2⟩
 ·have e1:(o+k)*z=o*z+k*z:=zvr _ _ _;have e2:(o+l.length)*z=o*z+l.length*z:=zvr _ _ _;have e3:(k+1)*z≤l.length*z:=zvd _ hk;rw[zwG] at e3;refine⟨.ptr i w ((o+k)*z),cs,(o+k)*z,by simp only[jQ,h,and_self,if_true,zxC,Int.ofNat_lt,hk,zxH],by simp only[rdX,h],fin _ _ (by omega) ?_⟩;rw[←a2,←h2,e1,←zwR,zwS,zwy,zvn (by omega)]
theorem zcR{g J:XH}{i w:Nat}{x:Nat×Nat×List XV}(h:zO g i w=some x):zO (g++J) i w=some x:=by obtain⟨t,z,cs⟩:=x;have:=jH h;have hi:=(zuz.1 this.1).1;unfold zO at h⊢;rw[zuA hi];exact h
theorem RdX.app{g J:XH}{v:XV}{l:List α}(r:RdX g t z enc v l):RdX (g++J) t z enc v l:=by
 rcases r with r|r|⟨i,w,o,cs,rfl,h,h1,h2⟩
 ·exact .inl r
 ·exact .inr (.inl r)
 ·exact .inr (.inr ⟨i,w,o,cs,rfl,zcR h,h1,h2⟩)
end
def ym{α:Type}(q:α→Bool):Nat→List α→Int
 |_,[]=> -1
 |k,x::r=>if q x then(k:Int) else ym q (k+1) r
theorem zbh{α:Type}(q:α→Bool):∀(k:Nat) (l:List α),(ym q k l≥0↔l.any q=true)
 |k,[]=>by simp[ym]
 |k,x::r=>by
  unfold ym;cases hq:q x with
  |true=>simp[hq]
  |false=>simpa[hq] using zbh q (k+1) r
def zjV{α:Type}(g:XH)(f:XV)(enc:α→List XV)(q:α→Bool)(l:List α):Prop:=
 (∃n,f= .v (.fn n)∧∀x∈l,Cl C (fun _=>False) n [.agg (enc x)] g fun u g'=>u=fb (q x)∧g'=g)∨
 ∃i n first caps,f= .cl i∧g[i]? =some (.clo n first caps)∧∀x∈l,Cl C (fun _=>False) n (first++([.agg (enc x)]++caps)) g fun u g'=>u=fb (q x)∧g'=g
def idxL(t z:Nat):EC:=(.seq (.ops [bb 9 .lss 8 7] [0,1,7,8,9]) (.seq (.cond (.t 9) .skip (.exit 0 []))
 (.seq (.block 1 (.seq (.ops [mv 10 8,mv 5 10] [0,1,5,7,8]) (.seq (.ops [mv 11 1,mv 12 0,mv 13 5,ia 14 t z 12 13,ln 15 z 14,gG 16 (.callv (.t 11) [(.t 15)])] [0,1,5,7,8,16]) (.cond (.t 16) (.seq (.ops [mv 17 5,mv 4 17] [4]) (.ret [4])) .skip)))) (.ops [bi 18 .add 8 1,mv 8 18] [0,1,7,8]))))
def idxE(t z:Nat):EF:=⟨19,(.seq (.ops [mi 4 0] [0,1]) (.seq (.seq (.ops [mv 6 0,lE 7 6,mi 8 0] [0,1,7,8]) (.block 0 (.loop [0,1,7,8] (idxL t z)))) (.seq (.ops [mi 4 (-1)] [4]) (.ret [4])))),[.tmp 4]⟩
theorem Ys{α:Type}{enc:α→List XV}{t z f:Nat}(hf:C f=some (idxE t z))(he:∀a,(enc a).length=z)(hz:z≠0){g:XH}{v c:XV}{l:List α}{q:α→Bool}(r:RdX g t z enc v l)(hl:l.length<1000000)(a:zjV g c enc q l):
 Cl C (fun _=>False) f [.s v,.s c] g fun u g'=>u=fi (ym q 0 l)∧g'=g:=by
 refine Cl.post fun Ψ hΨ=> ?_;refine Cl.intro hf (zuv rfl) ?_;simp[idxE,r.len];refine Lp.gen l.length (fun k (_:Unit)=>[(0,some (.s v)),(1,some (.s c)),(7,some (fi l.length)),(8,some (fi k))]) (fun _ _=>g) (fun k _=>ym q k (l.drop k)=ym q 0 l) () (by decide) (fun _ _=>rfl) rfl ?_ ?_
 ·intro k h s hi hlt N hN;obtain⟨p,cs,o,b1,b2,b3,b4,_⟩:=r.at he hz h;rw[zvc h,ym] at hi;have hx:l[k]∈l:=zu5 h;have hn:=yE h (by omega);have go:∀B:Nat→Prop,∀Ψ':XF→XH→Prop,Ψ' (fb (q l[k])) g→cv' C B (some (.s c)) (some [.agg (enc l[k])]) g Ψ':=fun B Ψ' hp=>by
   rcases a with⟨n,rfl,hq⟩|⟨i,n,first,caps,rfl,hi,hq⟩
   ·rw[cv_fn];exact zb.go (hq _ hx) (fun _ _ h=>h.elim) (by rintro u g' ⟨rfl,rfl⟩;exact hp)
   ·rw[cv_cl,hi];simp only[zuX];exact zb.go (hq _ hx) (fun _ _ h=>h.elim) (by rintro u g' ⟨rfl,rfl⟩;exact hp)
  simp[idxL,h,b1,b2,b3,b4,hz];refine go _ _ ?_;simp;refine zc (fun hq=> ?_) (fun hq=> ?_)
  ·rw[zuF hq] at hi;simp;exact Gh.here (hΨ _ _ ⟨by rw[hi],rfl⟩)
  ·rw[zuH (by simp[hq])] at hi;simp[hn];exact qC () hN hi (by simp) (by simpa using hlt)
 ·intro s hi;rw[zwA (zuB _),ym] at hi;simp[idxL];exact Gh.here (hΨ _ _ ⟨by rw[←hi],rfl⟩)
def conE(f:Nat):EF:=⟨9,(.seq (.ops [mb 4 false] [0,1]) (.seq (.ops [mv 5 0,mv 6 1,cb 7 f 5 6,bi 8 .geq 7 0,mv 4 8] [4]) (.ret [4]))),[.tmp 4]⟩
theorem Qt{α:Type}{enc:α→List XV}{t z f fi':Nat}(hc:C f=some (conE fi'))(hf:C fi'=some (idxE t z))(he:∀a,(enc a).length=z)(hz:z≠0){g:XH}{v c:XV}{l:List α}{q:α→Bool}(r:RdX g t z enc v l)(hl:l.length<1000000)(a:zjV g c enc q l):
 Cl C (fun _=>False) f [.s v,.s c] g fun u g'=>u=fb (l.any q)∧g'=g:=by
 refine Cl.post fun Ψ hΨ=> ?_;refine Cl.intro hc (zuv rfl) ?_;simp[conE];refine zb.go (Ys hf he hz r hl a) (fun _ _ h=>h.elim) ?_;rintro u g' ⟨rfl,rfl⟩;simp;refine Gh.here (hΨ _ _ ⟨?_,rfl⟩);have:=zbh q 0 l;cases h:l.any q with
 |true=>simp[this.2 h]
 |false=>
  have:¬ym q 0 l≥0:=fun h'=>by rw[this.1 h'] at h;cases h
  simp;omega
theorem Cl.gh{W:Nat→Prop}{f:Nat}{args:List XF}{g:XH}{Ψ:XF→XH→Prop}(w:Cl C W f args g (Gh W g Ψ)):Cl C W f args g Ψ:=by rintro R args1 rfl H ra;refine(w R args1 rfl H ra).mono ?_;rintro u1 h1 ⟨R',u,rfl,a2,a3,a4,a5⟩;obtain⟨R2,u2,b1,b2,b3,b4,b5⟩:=a5 R R' u1 rfl H a2 a3 rfl a4;exact⟨R2,u2,b1,b2,b3,b4,b5⟩
def Zp(g:XH)(t z n:Nat)(cells:List XV):XF→XH→Prop:=fun u g'=>∃w,u= .s (.sl g.length w 0 n)∧g'=g++[.own w t z cells]
theorem Fresh.frz{W:Nat→Prop}{f:Nat}{args:List XF}{g:XH}{t z n:Nat}{cells:List XV}(w:Cl C W f args g (Zp g t z n cells))(hl:zu g.length cells)(hn:n*z=cells.length):Cl C W f args g fun u g'=>u= .s (.lst t z n cells)∧g'=g:=by refine Cl.gh (w.mono ?_);rintro u g' ⟨w,rfl,rfl⟩;exact Gh.pure (.s (.full (zuB _) (fun j=>by simp) (by simp) hn (.lts hl))) ⟨rfl,rfl⟩
theorem fzh1{W:Nat→Prop}{g J:XH}{k w t z:Nat}{cs:List XV}(hJ:J[k]? =some (.own w t z cs))(hl:zu g.length cs):FzH W g.length J [some k] [.own w t z cs] g g g:=by
 refine⟨rfl,rfl,fun i o e=> .inl ⟨e,.inl e⟩,rfl,fun j j' k e e'=> ?_,fun j o e=> ?_⟩
 ·have h1:=(zuz.1 e).1;have h2:=(zuz.1 e').1;simp at h1 h2;omega
 ·have h1:=(zuz.1 e).1;obtain rfl:j=0:=by simpa using h1
  simp only[zvl,zuu] at e;exact .inr ⟨k,w,t,z,cs,cs,rfl,hJ,e.symm,.lts hl⟩
theorem fzg1{W:Nat→Prop}{g J:XH}{t z:Nat}:FzH W g.length J [none] [.own 0 t z []] g g g:=by
 refine⟨rfl,rfl,fun i o e=> .inl ⟨e,.inl e⟩,rfl,fun j j' k e e'=> ?_,fun j o e=> ?_⟩
 ·have h1:=(zuz.1 e).1;obtain rfl:j=0:=by simpa using h1
  simp at e
 ·have h1:=(zuz.1 e).1;obtain rfl:j=0:=by simpa using h1
  simp only[zvl,zuu] at e;exact .inl ⟨rfl,t,z,e.symm⟩
theorem zhf{W:Nat→Prop}{g J:XH}{k w t z n:Nat}{cs:List XV}{Ψ:XF→XH→Prop}(hJ:J[k]? =some (.own w t z cs))(hl:zu g.length cs)(h:∀u g',Zp g t z n cs u g'→Ψ u g'):Gh W g Ψ (.s (.sl (g.length+k) w 0 n)) (g++J):=
 Gh.keep [some k] [.own w t z cs] (fzh1 hJ hl) (.s (.ksl (j:=0) rfl)) (h _ _ ⟨w,rfl,rfl⟩)
theorem zs9{W:Nat→Prop}{g J:XH}{t z:Nat}{Ψ:XF→XH→Prop}(h:∀u g',Zp g t z 0 [] u g'→Ψ u g'):Gh W g Ψ (.s (.v .nils)) (g++J):=
 Gh.keep [none] [.own 0 t z []] fzg1 (.s (.gh (j:=0) (t:=t) (z:=z) rfl rfl)) (h _ _ ⟨0,rfl,rfl⟩)
theorem zkh{W:Nat→Prop}{g:XH}{t z:Nat}{Ψ:XF→XH→Prop}(h:∀u g',Zp g t z 0 [] u g'→Ψ u g'):Gh W g Ψ (.s (.v .nils)) g:=by
 have:=zs9 (W:=W) (J:=[]) h
 rwa [zu6] at this
def zlh(t z y:Nat)(zs:List SV):EF:=⟨8,(.seq (.ops [mc 2 .nils] [0]) (.seq (.seq (.ops [mv 3 0,gG 4 (.eqn false (.t 3) (.c (.s .nils)))] [0,4]) (.cond (.t 4) (.seq (.ops [mc 2 .nils] [2]) (.ret [2])) .skip)) (.seq (.ops [gG 5 (.bsl t 0 zs []),mv 6 0,ap 7 t z y 5 6,mv 2 7] [2]) (.ret [2])))),[.tmp 2]⟩
theorem JM{α:Type}{enc:α→List XV}{t z y f:Nat}{zs:List SV}(hf:C f=some (zlh t z y zs))(hzs:zs.length=z)(hnl:zs.all nlS=true)(he:∀a,(enc a).length=z)(hz:z≠0){g:XH}{v:XV}{l:List α}(r:RdX g t z enc v l)(hlv:∀a,zu g.length (enc a))(hy:l.length*y≤140737488355328):
 Cl C (fun _=>False) f [.s v] g (Zp g t z l.length (l.flatMap enc)):=by
 refine Cl.post fun Ψ hΨ=> ?_;refine Cl.intro hf (zuv rfl) ?_;have hlen:(l.flatMap enc).length=l.length*z:=zf he l;have hl:=zQ hlv l;have e1:=r.el;have e2:elX (g++[XO.own 0 t z []]) t z (.s v)=some (l.length,l.flatMap enc):=r.app.el;have hq:(Y8 g (.s v)=some (some true)∧l=[])∨(Y8 g (.s v)=some none∧l=[])∨Y8 g (.s v)=some (some false):=by
  rcases r with⟨rfl,rfl|rfl⟩|rfl|⟨i,w,o,cs,rfl,h,h1,h2⟩
  ·exact .inl ⟨rfl,rfl⟩
  ·exact .inr (.inl ⟨rfl,rfl⟩)
  ·cases l with
   |nil=>exact .inr (.inl ⟨rfl,rfl⟩)
   |cons a l=>exact .inr (.inr rfl)
  ·rw[zkz,h];simp only;by_cases h0:cs.length=0
   ·rw[zuF h0];refine .inr (.inl ⟨rfl,?_⟩);have:(o+l.length)*z=o*z+l.length*z:=zvr _ _ _;have h3:l.length*z=0:=by omega
    exact zvO ((Nat.mul_eq_zero.1 h3).resolve_right hz)
   ·rw[zuH h0];exact .inr (.inr rfl)
 have tru:l=[]→Gh (fun _=>False) g Ψ (.s (.v .nils)) g:=fun h=>by subst h;exact zkh hΨ
 have fr:∀w cells,l.flatMap enc=cells→Gh (fun _=>False) g Ψ (.s (.sl g.length w 0 l.length)) (g++[.own w t z cells]):=fun w cells h=>by subst h;exact zhf (k:=0) (J:=[.own w t z (l.flatMap enc)]) rfl hl hΨ
 by_cases h0:l.length=0
 ·have hn:l=[]:=zvO h0;rw[hn] at fr;rcases hq with⟨hq,_⟩|⟨hq,_⟩|hq
  ·simp[zlh,hq];exact tru hn
  ·simp[zlh,hq,e2,hnl,hzs,rep,h0];refine zms ?_ ?_
   ·simp;exact tru hn
   ·simp[e2,hnl,hzs,rep,h0];exact fr 0 [] rfl
  ·simp[zlh,hq,e2,hnl,hzs,rep,h0];exact fr 0 [] rfl
 ·have h1:(l.flatMap enc).length≠0:=by rw[hlen];exact zxj h0 hz
  have h2:¬l.flatMap enc=[]:=fun h=>h1 (by rw[h];rfl);rcases hq with⟨_,hn⟩|⟨_,hn⟩|hq
  ·exact absurd (by rw[hn];rfl) h0
  ·exact absurd (by rw[hn];rfl) h0
  ·simp[zlh,hq,e2,hnl,hzs,rep,h0,zfx h0,h1,h2,hy];exact fr 1 _ rfl
attribute [simp] qc lvO
theorem y5(a b:ByteArray):(a.toList==b.toList)=decide (a=b):=by
 rw[←z2];by_cases e:a=b
 ·subst e;rw[z2];simp
 ·have h1:(a==b)=false:=by rw[z2];exact zvU e
  rw[h1];have:¬a.toList=b.toList:=fun h=>e (by
   rw[zvM,zvM] at h;obtain⟨a⟩:=a;obtain⟨b⟩:=b;have:a=b:=Array.toList_inj.1 h;rw[this])
  simpa using this
def jB(x:Rw):List XV:=[xs x.j,xi x.y,xi x.r,xi x.p]
theorem ZB(x:Rw):(jB x).length=4:=rfl
theorem znc(m:Nat)(l:List Rw):zu m (l.flatMap jB):=zQ (fun a=>by simp[jB]) l
attribute [simp] znc
def Ze(T R:Nat)(g:XH)(i k:Nat)(t:List Rw):Prop:=∃w,g[i]? =some (.own 0 T 1 [.sl k w 0 t.length])∧g[k]? =some (.own w R 4 (t.flatMap jB))
theorem sameP(x:Rw)(j:ByteArray)(y p:Int){g:XH}{a b d:Nat}(ha:g[a]? =some (.own 0 9 1 [xs j]))(hb:g[b]? =some (.own 0 3 1 [xi y]))(hd:g[d]? =some (.own 0 3 1 [xi p])):Cl C (fun _=>False) 63 [.agg (jB x),.s (.ptr a 0 0),.s (.ptr b 0 0),.s (.ptr d 0 0)] g fun u g'=>u=fb (Jc j y p x)∧g'=g:=by
 have la:=(zuz.1 ha).1;have lb:=(zuz.1 hb).1;have ld:=(zuz.1 hd).1;refine Cl.ip rfl (zuv rfl) fun Ψ hΨ=> ?_;simp[jB,ha,hb,hd,la,lb,ld,y5]
 repeat' first|(refine zc (fun hc=> ?_) (fun hc=> ?_)<;>try simp[ha,hb,hd,la,lb,ld,y5])
 all_goals(refine Gh.pure (.s (.lt (by simp))) (hΨ _ _ ⟨?_,rfl⟩);simp at *;simp[Jc,z2, *])
theorem ze{g:XH}{i:Nat}{o:XO}(h:g[i]? =some o):i<g.length:=(zuz.1 h).1
theorem zcr{W:Nat→Prop}{g J:XH}{a b:Nat}{A B:XO}{Ψ:XF→XH→Prop}{u:XF}(hA:lvO g.length A)(hB:lvO g.length B)(hu:lvF g.length u)(h:Ψ u ((g.set a A).set b B)):Gh W g Ψ u (((g.set a A).set b B)++J):=
 Gh.fz ((FzH.refl.set a hA).set b hB) (.lt hu) h
theorem y0{g:XH}{i:Nat}{o:XO}(h:g[i]? =some o):g.set i o=g:=by obtain⟨l,rfl⟩:=zuz.1 h;exact zwY l
def JA(T R:Nat)(g:XH)(i k w:Nat)(t:List Rw):XH:=(g.set k (.own w R 4 (t.flatMap jB))).set i (.own 0 T 1 [.sl k w 0 t.length])
theorem Ze.same{T R:Nat}{g:XH}{i k:Nat}{t:List Rw}(h:Ze T R g i k t):∃w,g=JA T R g i k w t:=by obtain⟨w,h1,h2⟩:=h;exact⟨w,by unfold JA;rw[y0 h2,y0 h1]⟩
theorem yf{j:ByteArray}:j.toList.isEmpty=decide (j.size=0):=by rw[zvM];obtain⟨d⟩:=j;show d.toList.isEmpty=decide (d.size=0);rw[←zxc];cases d.toList<;>simp
set_option maxHeartbeats 1000000 in
theorem zt2{g:XH}{i k:Nat}{t:List Rw}(ht:Ze 145 140 g i k t)(hne:i≠k)(hl:t.length≤24)(j:ByteArray)(y r p:Int):
 Cl C (fun x=>x=i∨x=k) 25 [.s (.ptr i 0 0),fs j,fi y,fi r,fi p] g fun u g'=>u=fi (jG t j y r p).1∧∃w,g'=JA 145 140 g i k w (jG t j y r p).2:=by
 obtain⟨w0,he⟩:=ht.same;obtain⟨w,hi,hk⟩:=ht;have li:=ze hi;have lk:=ze hk;have hlen:(t.flatMap jB).length=t.length*4:=zf ZB t;have g1:∀x,(g.set k x)[i]? =g[i]? :=fun x=>zH hne.symm;refine Cl.ip rfl (zuv rfl) fun Ψ hΨ=> ?_;have no:∀n J,jG t j y r p=(n,t)→Gh (fun x=>x=i∨x=k) g Ψ (fi n) (g++J):=fun n J h=>Gh.pure (.s (.lt (by simp))) (hΨ _ _ ⟨by rw[h],w0,by rw[h];exact he⟩);simp[hi,hk,li,lk,yf]
 repeat' first|(refine zc (fun hc=> ?_) (fun hc=> ?_)<;>try simp[hi,hk,li,lk])|(refine zb.pure (q8 ..) ?_;try simp[hi,hk,li,lk])|(refine zb.pure (Zd ..) ?_;try simp[hi,hk,li,lk])
 case refine_2.refine_2.refine_2.refine_1.refine_1=>
  have hq:∀x∈t,Cl C (fun _=>False) 63 ([]++([.agg (jB x)]++[.s (.ptr g.length 0 0),.s (.ptr (g.length+1) 0 0),.s (.ptr (g.length+2) 0 0)])) (g++[.own 0 9 1 [xs j],.own 0 3 1 [xi y],.own 0 3 1 [xi p],.clo 63 [] [.s (.ptr g.length 0 0),.s (.ptr (g.length+1) 0 0),.s (.ptr (g.length+2) 0 0)]]) fun u g'=>u=fb (Jc j y p x)∧g'=g++[.own 0 9 1 [xs j],.own 0 3 1 [xi y],.own 0 3 1 [xi p],.clo 63 [] [.s (.ptr g.length 0 0),.s (.ptr (g.length+1) 0 0),.s (.ptr (g.length+2) 0 0)]]:=fun x _=>sameP x j y p (by simp) (by simp) (by simp);refine zb.go (Qt (f:=65) (fi':=129) rfl rfl ZB (by decide) (RdX.sl ZB (g:=g) hk).app (by omega) (.inr ⟨g.length+3,_,_,_,rfl,by simp,hq⟩)) (fun _ _ h=>h.elim) ?_;rintro u g' ⟨rfl,rfl⟩;simp[hi,hk,li,lk];simp only[zuK,zvx] at *;have hneg:¬(j.size=0∨¬yO y=true∨¬zm r=true∨¬zn p=true):=by simp[yO, *]
  unfold jG at no hΨ;rw[zuH hneg] at no hΨ;refine zc (fun hc=> ?_) (fun hc=> ?_)
  ·simp;exact no 4 _ (by rw[zuF hc])
  rw[zuH (by simp[hc])] at no hΨ;simp[hi,hk,li,lk];refine zc (fun hc=> ?_) (fun hc=> ?_)
  ·simp at hc⊢;exact no 5 _ (by rw[zuF (by omega)])
  ·simp at hc;rw[zuH (by omega)] at hΨ;simp[hlen,show(t.length+1)*40≤140737488355328 by omega,hi,hk,g1,li,lk];refine zcr (by simp[jB]) (by simp[lk]) (by simp) (hΨ _ _ ⟨rfl,w+1,?_⟩);simp[JA,jB]
 all_goals
  simp only[zuK,zvx] at *;exact no _ _ (by unfold jG;rw[zuF];simp[yO, *]<;>omega)
def rwOf(s:Option Rw):Rw:=s.getD ⟨⟨#[]⟩,0,0,0⟩
@[simp] theorem zus(b:Rw):rwOf (some b)=b:=rfl
theorem zgG{g:XH}{i k:Nat}{t:List Rw}(ht:Ze 145 140 g i k t)(hl:t.length≤1000)(j:ByteArray)(y p:Int):
 Cl C (fun _=>False) 166 [.s (.ptr i 0 0),fs j,fi y,fi p] g fun u g'=>u= .tup [fi ((jo t j y p).getD 0),fb (jo t j y p).isSome]∧g'=g:=by
 obtain⟨w,hi,hk⟩:=ht;have li:=ze hi;have lk:=ze hk;refine Cl.ip rfl (zuv rfl) fun Ψ hΨ=> ?_;simp[hi,hk,li,lk];refine Lp.fold (keep:=[1,2,3,10,11,18,19,20]) t (fun q s=>[(1,some (fs j)),(2,some (fi y)),(3,some (fi p)),(10,some (.s (.ptr g.length 0 0))),(11,some (fb s.isSome)),(18,some (.s (.sl k w 0 t.length))),(19,some (fi t.length)),(20,some (fi q))]) (fun _ s=>g++[.own 0 140 4 (jB (rwOf s))]) (QQ j y p) none (by decide) (fun _ _=>rfl) ?_ ?_
 ·intro q hq s hs hlt N hN;obtain⟨a1,a2,_⟩:=atX ZB hq;generalize t[q]=x at *;have hn:=yE hq (by omega);have go:∀s',QQ j y p s x=s'→∀J fr,fr=[(1,some (fs j)),(2,some (fi y)),(3,some (fi p)),(10,some (.s (.ptr g.length 0 0))),(11,some (fb s'.isSome)),(18,some (.s (.sl k w 0 t.length))),(19,some (fi t.length)),(20,some (fi ((q:Int)+1)))]→N fr (g++ .own 0 140 4 (jB (rwOf s'))::J):=fun s' e J fr hf=>by
   subst hf;rw[e] at hN;exact zgj hN J rfl (by simp) (by simpa using hlt) (by simp) (by simp[jB])
  clear hlt hN hs;cases s with
  |none=>
   simp[l166_0,hq,a1,a2,hk,lk,jB,y5,hn]
   repeat' first|(refine zc (fun hc=> ?_) (fun hc=> ?_)<;>try simp[hq,a1,a2,hk,lk,jB,y5,hn])
   all_goals
    simp only[zuK,zvx] at *
    first
     |exact go none (by simp only[QQ,zao,z2]<;>(repeat' split)<;>simp_all<;>omega) _ _ rfl
     |exact go (some x) (by simp only[QQ,zao,z2]<;>(repeat' split)<;>simp_all<;>omega) _ _ rfl
     |trace_state
  |some b=>
   simp[l166_0,hq,a1,a2,hk,lk,jB,y5,hn]
   repeat' first|(refine zc (fun hc=> ?_) (fun hc=> ?_)<;>try simp[hq,a1,a2,hk,lk,jB,y5,hn])
   all_goals
    simp only[zuK,zvx] at *
    first
     |exact go (some b) (by simp only[QQ,zao,z2]<;>(repeat' split)<;>simp_all<;>omega) _ _ rfl
     |exact go (some x) (by simp only[QQ,zao,z2]<;>(repeat' split)<;>simp_all<;>omega) _ _ rfl
     |trace_state
 ·intro s hs;simp[l166_0,jB];refine Gh.pure (.cons (.s (.lt (by simp))) (.cons (.s (.lt (by simp))) .nil)) (hΨ _ _ ⟨?_,rfl⟩);rw[hs];unfold jo;cases t.foldl (QQ j y p) none<;>rfl
theorem ZV:∀(b' b c:List XV) (a:List XV),b'.length=b.length→setX (a++(b++c)) a.length b'=a++(b'++c)
 |[],[],c,a,_=>by simp[setX]
 |x::b',y::b,c,a,h=>by
  have ih:=ZV b' b c (a++[x]) (by simpa using h);simp only[zuD,zuI,zuX,List.singleton_append] at ih;simp only[setX];have e:(a++(y::b++c)).set a.length x=a++x::(b++c):=by rw[zvK _ _ (zuB _),zvy];rfl
  rw[e,ih];rfl
theorem ZU{a b:List XV}(h:b.length=a.length):setX a 0 b=b:=by have:=ZV b a [] [] h;simpa using this
theorem zbi{α:Type}{enc:α→List XV}{z:Nat}(he:∀a,(enc a).length=z){m:List α}{i:Nat}(hi:i<m.length)(x:α)(post:List XV):setX (m.flatMap enc++post) (i*z) (enc x)=(m.set i x).flatMap enc++post:=by
 have e1:m=m.take i++m[i]::m.drop (i+1):=by rw[←zvc hi,zu7]
 have e2:m.set i x=m.take i++x::m.drop (i+1):=by rw[List.set_eq_take_append_cons_drop,zuF hi]
 have l1:((m.take i).flatMap enc).length=i*z:=by rw[zf he,zuR,zvn (by omega)]
 rw[e2]
 conv=>lhs;rw[e1]
 simp only[zvi,zvF,zuX];have:=ZV (enc x) (enc m[i]) ((m.drop (i+1)).flatMap enc++post) ((m.take i).flatMap enc) (by rw[he,he]);simpa only[zuD,l1,zuX] using this
theorem ziZ{α:Type}{enc:α→List XV}{z:Nat}(he:∀a,(enc a).length=z){m:List α}{i:Nat}(hi:i≤m.length)(b post:List XV)(hb:b.length=(m.length-i)*z):setX (m.flatMap enc++post) (i*z) b=(m.take i).flatMap enc++(b++post):=by
 have l1:((m.take i).flatMap enc).length=i*z:=by rw[zf he,zuR,zvn (by omega)]
 conv=>lhs;rw[←zu7 i m]
 rw[zvi,zuX];have:=ZV b ((m.drop i).flatMap enc) post ((m.take i).flatMap enc) (by rw[hb,zf he,zvL])
 rwa [l1] at this
theorem zde{α:Type}(q:α→Bool):∀(l:List α) (k:Nat),(ym q k l= -1∧l.any q=false)∨∃i,ym q k l=((k+i:Nat):Int)∧i<l.length∧(l.take i).any q=false∧(l[i]?).map q=some true
 |[],k=> .inl ⟨rfl,rfl⟩
 |x::l,k=>by
  unfold ym;cases hx:q x with
  |true=>exact .inr ⟨0,rfl,zxU _,rfl,by simp[hx]⟩
  |false=>
   rcases zde q l (k+1) with⟨e1,e2⟩|⟨i,e1,e2,e3,e4⟩
   ·exact .inl ⟨by simp[e1],by simp[hx,e2]⟩
   ·exact .inr ⟨i+1,by simp[e1];omega,Nat.succ_lt_succ e2,by rw[zuU,List.any_cons,hx,e3];rfl,by simpa using e4⟩
theorem JQ{α:Type}{q:α→Bool}{l:List α}(h:l.any q=false):l.filter (fun x=> !q x)=l:=by rw[List.filter_eq_self];intro x hx;rw[List.any_eq_false] at h;simp[h x hx]
theorem znI{m n:Nat}{zs:List SV}:zu m ((rep n zs).map .v):=by
 induction(rep n zs) with
 |nil=>simp[zu]
 |cons a l ih=>simp only[zuS,zu,lvV];exact⟨trivial,ih⟩
theorem zkP{n:Nat}{zs:List SV}{z:Nat}(h:zs.length=z):(rep n zs).length=n*z:=by unfold rep;simp[h]
def delL(t z:Nat)(zs:List SV):EC:=(.seq (.seq (.ops [mv 16 6,mv 17 0,lE 18 17,bb 19 .lss 16 18] [0,1,5,6,19]) (.cond (.t 19) .skip (.exit 0 [0,5])))
 (.seq (.block 1 (.seq (.ops [mv 22 0,mv 23 6,ia 24 t z 22 23,ln 25 z 24,gG 7 (.new t z (.c (.agg zs))),sr z 7 25] [0,1,5,6,7]) (.seq (.ops [mv 26 1,ln 27 z 7,gG 28 (.callv (.t 26) [(.t 27)]),nT 29 28] [0,1,5,6,7,29]) (.cond (.t 29) (.seq (.ops [mv 30 0,mv 31 5,ln 32 z 7,ia 33 t z 30 31,sr z 33 32] [0,1,5,6]) (.ops [mv 34 5,bi 35 .add 34 1,mv 5 35] [0,1,5,6])) .skip)))) (.ops [mv 20 6,bi 21 .add 20 1,mv 6 21] [0,1,5,6])))
def delE(t z:Nat)(zs:List SV)(fi:Nat):EF:=⟨42,(.seq (.ops [mc 4 .nils] [0,1]) (.seq (.ops [mv 8 0,mv 9 1,cb 10 fi 8 9,mv 5 10] [0,1,5]) (.seq (.seq (.ops [mv 11 5,bi 12 .eql 11 (-1)] [0,1,5,12]) (.cond (.t 12) (.seq (.ops [mv 13 0,mv 4 13] [4]) (.ret [4])) .skip))
 (.seq (.seq (.ops [mv 14 5,bi 15 .add 14 1,mv 6 15] [0,1,5,6]) (.block 0 (.loop [0,1,5,6] (delL t z zs)))) (.seq (.ops [mv 36 0,mv 37 5,gG 38 (.sli t z (.t 36) (some (.t 37)) none),gN (.clr t zs (.t 38))] [0,5]) (.seq (.ops [mv 39 0,mv 40 5,gG 41 (.sli t z (.t 39) none (some (.t 40))),mv 4 41] [4]) (.ret [4]))))))),[.tmp 4]⟩
def AsksA{α:Type}(g:XH)(k w t z:Nat)(f:XV)(enc:α→List XV)(q:α→Bool)(l:List α):Prop:=∀cells J,zjV (g.set k (.own w t z cells)++J) f enc q l
theorem zcl{α:Type}{enc:α→List XV}{t z f fi':Nat}{zs:List SV}(hf:C f=some (delE t z zs fi'))(hfi:C fi'=some (idxE t z))(hz:z≠0)(hzs:zs.length=z)(hnl:zs.all nlS=true)(he:∀a,(enc a).length=z){g:XH}{c:XV}{l:List α}{q:α→Bool}{k w:Nat}{junk:List XV}(hk:g[k]? =some (.own w t z (l.flatMap enc++junk)))(hl:l.length<1000000)(hlv:∀a m,zu m (enc a))(hj:∀m,zu m junk)(a:AsksA g k w t z c enc q l):
 Cl C (fun x=>x=k) f [.s (.sl k w 0 l.length),.s c] g fun u g'=>∃junk',(∀m,zu m junk')∧u= .s (.sl k w 0 (l.filter fun x=> !q x).length)∧g'=g.set k (.own w t z ((l.filter fun x=> !q x).flatMap enc++junk')):=by
 refine Cl.post fun Ψ hΨ=> ?_;refine Cl.intro hf (zuv rfl) ?_;have lk:=ze hk;have r:RdX g t z enc (.sl k w 0 l.length) l:=by
  refine .inr (.inr ⟨k,w,0,_,rfl,(by simp only[zO,hk,if_true];rfl),?_,?_⟩)
  ·rw[zuD,zf he,zve];exact zwD _ _
  ·rw[zvP,zu2,←zf he,zvZ];rfl
 have a0:zjV g c enc q l:=by have:=a (l.flatMap enc++junk) [];rwa [y0 hk,zu6] at this
 simp[delE];refine zb.go0 (Ys hfi he hz r hl a0) ?_;rcases zde q l 0 with⟨e1,e2⟩|⟨i0,e1,e2,e3,e4⟩
 ·simp[e1];refine Gh.here (hΨ _ _ ⟨junk,hj,?_,?_⟩)
  ·rw[JQ e2]
  ·rw[JQ e2,y0 hk]
 ·rw[zve] at e1;have w1:IntKind.i64.wrap ((i0:Int)+1)=((i0+1:Nat):Int):=zd (by omega) (by omega);have n1:¬((i0:Int)= -1):=by omega
  have n2:((i0:Int)== -1)=false:=by simp
  simp[e1,n1,n2,w1];obtain⟨x0,hx0,hq0⟩:∃x,l[i0]? =some x∧q x=true:=by rw[zuJ e2] at e4⊢;exact⟨_,rfl,by simpa using e4⟩
  have ht0:l.take i0=(l.take (i0+1)).filter fun x=> !q x:=by rw[zw4,hx0,zwr,JQ e3];simp[hq0]
  have gk:∀X:XO,(g.set k X)[k]? =some X:=fun X=>yo lk;have e0:g=g.set k (.own w t z (l.flatMap enc++junk)):=(y0 hk).symm;have cl:∀m:List α,m.length=l.length→(m.flatMap enc++junk).length=l.length*z+junk.length:=fun m hm=>by rw[zuD,zf he,hm]
  have main:=Lp.gen (keep:=[0,1,5,6]) (σ:=Nat×List α) (C:=C) (B:=fun i=>g.length≤i∨i=k) (b:=delL t z zs) (Φ:=KBx 0 (Kx C (fun i=>g.length≤i∨i=k) (.seq (.ops [mv 36 0,mv 37 5,gG 38 (.sli t z (.t 36) (some (.t 37)) none),gN (.clr t zs (.t 38))] [0,5]) (.seq (.ops [mv 39 0,mv 40 5,gG 41 (.sli t z (.t 39) none (some (.t 40))),mv 4 41] [4]) (.ret [4]))) (KRx [.tmp 4] (Gh (fun x=>x=k) g Ψ)))) (l.length-(i0+1)) (fun r s=>[(0,some (.s (.sl k w 0 l.length))),(1,some (.s c)),(5,some (fi s.1)),(6,some (fi ((i0+1+r:Nat):Int)))]) (fun _ s=>g.set k (.own w t z (s.2.flatMap enc++junk)))
   (fun r s=>s.1<i0+1+r∧s.2.length=l.length∧s.2.take s.1=(l.take (i0+1+r)).filter (fun x=> !q x)∧s.2.drop (i0+1+r)=l.drop (i0+1+r)) (i0,l) (by decide) (fun _ _=>rfl) ⟨zww _,rfl,ht0,rfl⟩ ?_ ?_
  ·simp only at main;rw[←e0] at main;exact main
  ·rintro r hr ⟨i,m⟩ ⟨p1,p2,p3,p4⟩ hlt N hN;simp only at p1 p2 p3 p4 hlt hN⊢;generalize hjj:i0+1+r=j at *;have hjl:j<l.length:=by omega
   have hmj:j<m.length:=by omega
   have hmi:i<m.length:=by omega
   have emj:m[j]=l[j]:=by have:=congrArg (fun L=>L[0]?) p4;simp only[zvE,zv1] at this;rw[zuJ hmj,zuJ hjl] at this;exact zuw this
   obtain⟨a1,a2,_⟩:=atX he hmj;have b1:j*z+z≤(m.flatMap enc++junk).length:=by rw[zuD];omega
   have b2:((m.flatMap enc++junk).drop (j*z)).take z=enc l[j]:=by rw[zxr (by omega),zwQ (by rw[zvL];omega),a2,emj]
   have b3:i*z+z≤(m.flatMap enc++junk).length:=by obtain⟨a1,_,_⟩:=atX he hmi;rw[zuD];omega
   have b4:(m.flatMap enc++junk).length≠0:=by have:=zxk hz;omega
   have b5:=zbi he hmi l[j] junk;have hx:l[j]∈l:=zu5 hjl;have wj:IntKind.i64.wrap ((j:Int)+1)=((j+1:Nat):Int):=zd (by omega) (by omega);have wi:IntKind.i64.wrap ((i:Int)+1)=((i+1:Nat):Int):=zd (by omega) (by omega);have htk:l.take (j+1)=l.take j++[l[j]]:=zuT hjl;have hdj:l.drop j=l[j]::l.drop (j+1):=zvc hjl;have go:∀B:Nat→Prop,∀g1,(∃J,g1=g.set k (.own w t z (m.flatMap enc++junk))++J)→∀Ψ':XF→XH→Prop,Ψ' (fb (q l[j])) g1→xcv C B (some (.s c)) (some [.agg (enc l[j])]) g1 Ψ' .mk:=fun B g1 ⟨J,hg1⟩ Ψ' hp=>by
    subst hg1;rcases a (m.flatMap enc++junk) J with⟨n,rfl,hq⟩|⟨i,n,first,caps,rfl,hi,hq⟩
    ·rw[zo1];exact zb.go (hq _ hx) (fun _ _ h=>h.elim) (by rintro u g' ⟨rfl,rfl⟩;exact hp)
    ·rw[zo0,hi,zoZ];simp only[zuX];exact zb.go (hq _ hx) (fun _ _ h=>h.elim) (by rintro u g' ⟨rfl,rfl⟩;exact hp)
   have step1:q l[j]=true→m.take i=(l.take (j+1)).filter (fun x=> !q x):=fun hq=>by rw[htk,zwr,p3];simp[hq]
   have step2:q l[j]=false→(m.set i l[j]).take (i+1)=(l.take (j+1)).filter (fun x=> !q x):=fun hq=>by rw[htk,zwr,←p3,zuT (by simpa using hmi),List.take_set_of_le (zuB _)];simp[hq]
   have hd:m.drop (j+1)=l.drop (j+1):=by have e:m.drop j=m[j]::m.drop (j+1):=zvc hmj;rw[e,hdj,List.cons.injEq] at p4;exact p4.2
   have hd2:(m.set i l[j]).drop (j+1)=l.drop (j+1):=by rw[List.drop_set_of_lt (by omega),hd]
   have go2:∀(i':Nat) (m':List α) (J:XH) (fr:XFr),i'<j+1→m'.length=l.length→m'.take i'=(l.take (j+1)).filter (fun x=> !q x)→m'.drop (j+1)=l.drop (j+1)→fr=[(0,some (.s (.sl k w 0 l.length))),(1,some (.s c)),(5,some (fi ((i':Nat):Int))),(6,some (fi ((j+1:Nat):Int)))]→N fr (g.set k (.own w t z (m'.flatMap enc++junk))++J):=fun i' m' J fr h1 h2 h3 h4 h5=>by
    subst h5;have e:i0+1+(r+1)=j+1:=by omega
    rw[e] at hN;refine hN (i',m') _ _ ⟨h1,h2,h3,h4⟩ ⟨rfl,⟨J,rfl⟩,by simp,?_,?_⟩
    ·simpa using hlt
    ·intro x o hx e;by_cases hxk:k=x
     ·subst hxk;rw[gk] at e;obtain rfl:=zuw e;exact .inr (by simp[lvO,zQ (fun a=>hlv a _),hj])
     ·rw[zH hxk] at e;exact .inl (by rw[zH hxk];exact e)
   have ez:setX (zs.map .v) 0 (enc l[j])=enc l[j]:=ZU (by rw[he,zuY,hzs]);have el:(enc l[j]).length=z:=he _;have et:(enc l[j]).take z=enc l[j]:=by rw[←el,zu3]
   generalize hcs:m.flatMap enc++junk=cs at *;have b6:¬cs=[]:=fun e=>b4 (by rw[e];rfl);have hil:i<l.length:=by omega
   have G1:=gk (.own w t z cs);have G2:g.length≤(g.set k (.own w t z cs)).length:=by simp
   have G3:k<(g.set k (.own w t z cs)).length:=by simpa using lk
   have G4:∀X,(g.set k (.own w t z cs)).set k X=g.set k X:=fun X=>by simp
   generalize hG:g.set k (.own w t z cs)=G at *;simp[delL,hjl,b1,b2,G1,G2,G3,hzs,rep,hz,ez,el,et,hnl,-List.all_eq_true];refine go _ _ ⟨_,rfl⟩ _ ?_;simp;refine zc (fun hq=> ?_) (fun hq=> ?_)
   ·simp[wj];have:=fun J=>go2 i m J _ (by omega) p2 (step1 hq) hd rfl;rw[hcs,hG] at this;exact this _
   ·simp[G1,G2,G3,G4,hz,el,et,hil,b3,b5,b6,wi,wj];exact go2 (i+1) (m.set i l[j]) _ _ (by omega) (by simpa using p2) (step2 hq) hd2 (by simp)
  ·rintro⟨i,m⟩ ⟨p1,p2,p3,p4⟩;have hj2:i0+1+(l.length-(i0+1))=l.length:=by omega
   simp only[hj2] at p1 p2 p3 p4⊢;rw[zu3] at p3;have hi:(l.filter fun x=> !q x).length=i:=by rw[←p3,zuR];omega
   have b4:(m.flatMap enc++junk).length≠0:=by rw[cl m p2];have:=Nat.mul_pos (show 0<l.length by omega) (zxk hz);omega
   have b5:=ziZ he (m:=m) (i:=i) (by omega) ((rep (m.length-i) zs).map .v) junk (by rw[zuY,zkP hzs]);have b6:(m.flatMap enc++junk).length=l.length*z+junk.length:=cl m p2;have b7:(i+(l.length-i))*z=l.length*z:=by congr 1;omega
   rw[p2,p3] at b5;have b9:¬(l.length*z=0∧junk=[]):=fun e=>b4 (by rw[b6,e.1,e.2];rfl);generalize hcs:m.flatMap enc++junk=cs at *;have b8:¬cs=[]:=fun e=>b4 (by rw[e];rfl);obtain⟨cs2,hcs2⟩:∃cs2,cs2=(l.filter fun x=> !q x).flatMap enc++((rep (l.length-i) zs).map XV.v++junk):=⟨_,rfl⟩
   rw[←hcs2] at b5;have b10:∀m,zu m ((rep (l.length-i) zs).map .v):=fun m=>znI;have b11:¬setX cs (i*z) ((rep (l.length-i) zs).map .v)=[]:=fun e=>b8 (zvO (by rw[←za1 _ cs (i*z),e];rfl));rw[b5] at b11;simp[rep] at b5;simp[delL,gk,lk,show i≤l.length by omega,hzs,b5,b6,b7,b8,b9,b11,rep,hnl,-List.all_eq_true];refine Gh.here (hΨ _ _ ⟨_,fun m=> ?_,by rw[hi],by rw[hcs2]⟩);exact qc.2 ⟨b10 m,hj m⟩
def QS{α:Type}(e:α→α→Bool):List α→List α→Bool
 |[],[]=>true
 |a::l,b::m=>e a b&&QS e l m
 |_,_=>false
theorem zfd{α:Type}{e:α→α→Bool}:∀{a b:List α},a.length≠b.length→QS e a b=false
 |[],[],h=>(h rfl).elim
 |[],_::_,_=>rfl
 |_::_,[],_=>rfl
 |a::l,b::m,h=>by simp only[QS,zfd (a:=l) (b:=m) (by simpa using h),Bool.and_false]
theorem zjG{α:Type}{e:α→α→Bool}{a b:List α}{k:Nat}(ha:k<a.length)(hb:k<b.length):QS e (a.drop k) (b.drop k)=(e a[k] b[k]&&QS e (a.drop (k+1)) (b.drop (k+1))):=by rw[zvc ha,zvc hb];rfl
section
variable {α:Type} {enc:α→List XV} {e:α→α→Bool} {t z f:Nat} {o:List (Nat×Nat)} {g:XH} {u v:XV} {a b:List α}
end
section
variable {α:Type} {c:α→SV} {e:α→α→Bool} {t f:Nat} {g:XH} {u v:XV} {a b:List α}
end
def eqlL(t z:Nat)(o:List (Nat×Nat)):EC:=(.seq (.ops [bb 14 .lss 13 12] [0,1,12,13,14]) (.seq (.cond (.t 14) .skip (.exit 0 [])) (.seq (.block 1 (.seq (.ops [mv 15 13,mv 5 15] [0,1,5,12,13]) (.seq (.draw [mv 16 0,mv 17 5,ia 18 t z 16 17,ln 19 z 18,mv 20 1,mv 21 5,ia 22 t z 20 21,ln 23 z 22,gG 24 (.eqs true o (.t 19) (.t 23))] [] [0,1,12,13,24]) (.cond (.t 24) (.seq (.ops [mb 4 false] [4]) (.ret [4])) .skip)))) (.ops [bi 25 .add 13 1,mv 13 25] [0,1,12,13]))))
def eqlE(t z:Nat)(o:List (Nat×Nat)):EF:=⟨26,(.seq (.ops [mb 4 false] [0,1]) (.seq (.seq (.ops [mv 6 0,lE 7 6,mv 8 1,lE 9 8,bb 10 .neq 7 9] [0,1,10]) (.cond (.t 10) (.seq (.ops [mb 4 false] [4]) (.ret [4])) .skip)) (.seq (.seq (.ops [mv 11 0,lE 12 11,mi 13 0] [0,1,12,13]) (.block 0 (.loop [0,1,12,13] (eqlL t z o)))) (.seq (.ops [mb 4 true] [4]) (.ret [4]))))),[.tmp 4]⟩
section
variable {α:Type} {enc:α→List XV} {e:α→α→Bool} {t z f:Nat} {o:List (Nat×Nat)} {g:XH} {u v:XV} {a b:List α}
theorem zs2(hf:C f=some (eqlE t z o))(he:∀a,(enc a).length=z)(hz:z≠0)(hq:∀x y,jO ((enc x).map unV) ((enc y).map unV) o=some (e x y))(ra:RdX g t z enc u a)(rb:RdX g t z enc v b)(hl:a.length<1000000):
 Cl C (fun _=>False) f [.s u,.s v] g fun r g'=>r=fb (QS e a b)∧g'=g:=by
 refine Cl.post fun Ψ hΨ=> ?_;refine Cl.intro hf (zuv rfl) ?_;simp[eqlE,ra.len,rb.len];refine zc (fun hc=> ?_) (fun hc=> ?_)
 ·simp at hc⊢;exact Gh.here (hΨ _ _ ⟨by rw[zfd (by omega)],rfl⟩)
 ·simp at hc;have hab:a.length=b.length:=by omega
  simp[ra.len];refine Lp.gen (keep:=[0,1,12,13]) a.length (fun k (_:Unit)=>[(0,some (.s u)),(1,some (.s v)),(12,some (fi (a.length:Int))),(13,some (fi (k:Int)))]) (fun _ _=>g) (fun k _=>QS e (a.drop k) (b.drop k)=QS e a b) () (by decide) (fun _ _=>rfl) rfl ?_ ?_
  ·intro k hk _ hi hlt N hN;obtain⟨p,cs,o1,b1,b2,b3,b4,_⟩:=ra.at he hz hk;obtain⟨p',cs',o2,d1,d2,d3,d4,_⟩:=rb.at he hz (hab▸hk);rw[zjG hk (hab▸hk)] at hi;have hn:=yE hk (by omega);simp[eqlL,hk,b1,b2,b3,b4,d1,d2,d3,d4,hz,hq,ra.len,-List.map_map];refine zc (fun hx=> ?_) (fun hx=> ?_)
   ·rw[hx,zxx] at hi;simp[hn];exact qC () hN hi (by simp) (by simpa using hlt)
   ·rw[hx,Bool.false_and] at hi;simp;exact Gh.here (hΨ _ _ ⟨by rw[←hi],rfl⟩)
  ·intro _ hi;rw[zwA (zuB _),zwA (by omega)] at hi;simp[eqlL,ra.len];exact Gh.here (hΨ _ _ ⟨by rw[←hi];rfl,rfl⟩)
end
def z8(b:Bu):List XV:=[xi b.c,xi b.y,xi b.n]
theorem zP(b:Bu):(z8 b).length=3:=rfl
theorem zax(b:Bu)(m:Nat):zu m (z8 b):=by simp[z8]
@[simp] theorem JO(m:Nat)(l:List Bu):zu m (l.flatMap z8):=zQ (fun a=>zax a m) l
def RegQ(g:XH)(i:Nat)(l:List Bu):Prop:=∃v,g[i]? =some (.own 0 263 1 [v])∧RdX g 261 3 z8 v l
theorem keyBP(x:Bu)(c y:Int){g:XH}{a b:Nat}(ha:g[a]? =some (.own 0 3 1 [xi c]))(hb:g[b]? =some (.own 0 3 1 [xi y])):Cl C (fun _=>False) 312 [.agg (z8 x),.s (.ptr a 0 0),.s (.ptr b 0 0)] g fun u g'=>u=fb (jA c y x)∧g'=g:=by
 have la:=ze ha;have lb:=ze hb;refine Cl.ip rfl (zuv rfl) fun Ψ hΨ=> ?_;simp[z8,ha,hb,la,lb]
 repeat' first|(refine zc (fun hc=> ?_) (fun hc=> ?_)<;>try simp[z8,ha,hb,la,lb])
 all_goals(refine Gh.pure (.s (.lt (by simp))) (hΨ _ _ ⟨?_,rfl⟩);simp at *;simp[jA, *])
theorem zsk{g:XH}{i:Nat}{l:List Bu}(h:RegQ g i l)(hl:l.length≤1000)(c y:Int):Cl C (fun _=>False) 268 [.s (.ptr i 0 0),fi c,fi y] g fun u g'=>u=fi (ym (jA c y) 0 l)∧g'=g:=by obtain⟨v,h1,h2⟩:=h;have li:=ze h1;refine Cl.ip rfl (zuv rfl) fun Ψ hΨ=> ?_;simp[h1,li];refine zb.go0 (Ys (f:=287) rfl zP (by decide) h2.app (by omega) (.inr ⟨g.length+2,312,[],[.s (.ptr g.length 0 0),.s (.ptr (g.length+1) 0 0)],rfl,by simp,fun x _=>keyBP x c y (by simp) (by simp)⟩)) ?_;simp;exact Gh.pure (.s (.lt (by simp))) (hΨ _ _ ⟨rfl,rfl⟩)
theorem zeD(c y:Int):∀(l:List Bu) (k:Nat),(ym (jA c y) k l= -1∧getD l c y=0∧l.any (jA c y)=false)∨∃i,ym (jA c y) k l=((k+i:Nat):Int)∧∃h:i<l.length,getD l c y=l[i].n
 |[],k=> .inl ⟨rfl,rfl,rfl⟩
 |x::l,k=>by
  unfold ym;cases hx:jA c y x with
  |true=>exact .inr ⟨0,rfl,zxU _,by simp[getD,hx]⟩
  |false=>
   have e:getD (x::l) c y=getD l c y:=by simp[getD,hx]
   rcases zeD c y l (k+1) with⟨e1,e2,e3⟩|⟨i,e1,e2,e3⟩
   ·exact .inl ⟨by simp[e1],by rw[e,e2],by simp[hx,e3]⟩
   ·exact .inr ⟨i+1,by simp[e1];omega,by simpa using e2,by rw[e,e3];rfl⟩
def YB(g:XH)(i:Nat)(l:List Bu):Prop:=g[i]? =some (.own 0 263 1 [.lst 261 3 l.length (l.flatMap z8)])
theorem YB.q{g:XH}{i:Nat}{l:List Bu}(h:YB g i l):RegQ g i l:=⟨_,h,RdX.lst g l⟩
theorem zjw{g:XH}{i:Nat}{l:List Bu}(h:YB g i l)(hl:l.length≤1000)(c y:Int):Cl C (fun _=>False) 210 [.s (.ptr i 0 0),fi c,fi y] g fun u g'=>u=fi (getD l c y)∧g'=g:=by
 have h1:g[i]? =_:=h;have li:=ze h1;refine Cl.ip rfl (zuv rfl) fun Ψ hΨ=> ?_;simp;refine zb.go0 (zsk h.q hl c y) ?_;rcases zeD c y l 0 with⟨e1,e2,_⟩|⟨k,e1,hk,e3⟩
 ·simp[e1];exact Gh.here (hΨ _ _ ⟨by rw[e2],rfl⟩)
 ·rw[zve] at e1;obtain⟨_,_,a3⟩:=atX zP hk;have a4:=a3 2 (by decide);have e0:¬(k:Int)<0:=by omega
  simp[e1,e0,h1,li,hk,a4,z8];exact Gh.here (hΨ _ _ ⟨by rw[e3],rfl⟩)
theorem ztP{g:XH}{i:Nat}{l:List Bu}(h:YB g i l)(hl:l.length≤1000)(hm:∀b∈l,za b.n=true):Cl C (fun _=>False) 211 [.s (.ptr i 0 0)] g fun u g'=>u=fi (yH l)∧g'=g:=by
 have h1:g[i]? =_:=h;have li:=ze h1;refine Cl.ip rfl (zuv rfl) fun Ψ hΨ=> ?_;simp[h1,li];refine Lp.fold (keep:=[3,9,10,11]) l (fun k s=>[(3,some (fi s)),(9,some (.s (.lst 261 3 l.length (l.flatMap z8)))),(10,some (fi l.length)),(11,some (fi k))]) (fun _ _=>g) (fun s b=>s+b.n) 0 (by decide) (fun _ _=>rfl) ?_ ?_
 ·intro k hk s hs hlt N hN;obtain⟨a1,a2,_⟩:=atX zP hk;have w:IntKind.i64.wrap (s+l[k].n)=s+l[k].n:=by
   rw[Qz] at hs;have:=zbI Bu.n 100000000000 (by omega) (l.take k) fun b hb=>by simpa[za] using hm b (zvJ hb)
   have h2:za l[k].n=true:=hm _ (zu5 hk);simp[za] at h2;rw[zuR] at this;exact zd (by omega) (by omega)
  generalize l[k]=x at *;simp[l211_0,hk,a1,a2,z8,w,yE hk (by omega)];exact Y9 hN (by simp) (by simp)
 ·intro s hs;simp[l211_0];exact Gh.here (hΨ _ _ ⟨by rw[hs,Qz];simp[yH],rfl⟩)
theorem zj2(c:Int)(y:Int):Pure C 209 [fi c,fi y] (fb (yL c y)):=by
 refine Pure.intro0 (e:=e209) rfl (zuv rfl) (by simp) fun g Ψ h0 hJ=> ?_;simp
 repeat' first|(refine zc (fun hc=> ?_) (fun hc=> ?_)<;>try simp)
 all_goals(simp at *;exact qV h0 (by simp[yL,yO, *]<;>omega))
def jS(c y n:Int):List Bu→List Bu
 |[]=>if n≠0 then[⟨c,y,n⟩] else[]
 |x::l=>if jA c y x then⟨x.c,x.y,n⟩::l else x::jS c y n l
theorem zdS(c y n:Int):∀(l:List Bu),(jS c y n l).length≤l.length+1
 |[]=>by unfold jS;split<;>simp
 |x::l=>by unfold jS;split<;>simp[zdS c y n l]
theorem zeE(c y n:Int):∀(l:List Bu) (k:Nat),(ym (jA c y) k l= -1∧jS c y n l=l++(if n≠0 then[⟨c,y,n⟩] else[]))∨∃i,ym (jA c y) k l=((k+i:Nat):Int)∧∃h:i<l.length,jS c y n l=l.set i ⟨l[i].c,l[i].y,n⟩
 |[],k=> .inl ⟨rfl,by simp[jS]⟩
 |x::l,k=>by
  unfold ym jS;cases hx:jA c y x with
  |true=>exact .inr ⟨0,rfl,zxU _,by simp⟩
  |false=>
   rcases zeE c y n l (k+1) with⟨e1,e2⟩|⟨i,e1,e2,e3⟩
   ·exact .inl ⟨by simp[e1],by simp[e2]⟩
   ·exact .inr ⟨i+1,by simp[e1];omega,by simpa using e2,by simp[e3]⟩
def jw(l:List Bu)(c y n:Int):List Bu:=(jS c y n l).filter fun b=> !(b.n==0)
theorem zeroP(x:Bu)(g:XH):Cl C (fun _=>False) 270 [.agg (z8 x)] g fun u g'=>u=fb (x.n==0)∧g'=g:=by refine Cl.ip rfl (zuv rfl) fun Ψ hΨ=> ?_;simp[z8];exact Gh.pure (.s (.lt (by simp))) (hΨ _ _ ⟨by simp,rfl⟩)
section
attribute [-simp] zbd
structure Upd(S:Nat→Prop)(g g':XH):Prop where
 len:g'.length=g.length
 same:∀j:Nat,¬S j→g'[j]? =g[j]?
 old:∀(j:Nat) (o:XO),g'[j]? =some o→g[j]? =some o∨lvO g.length o
theorem Upd.refl{S:Nat→Prop}{g:XH}:Upd S g g:=⟨rfl,fun _ _=>rfl,fun _ _ h=> .inl h⟩
theorem Upd.set{S:Nat→Prop}{g g':XH}(h:Upd S g g'){i:Nat}(hi:S i){o:XO}(ho:lvO g.length o):Upd S g (g'.set i o):=by
 refine⟨by rw[zvf,h.len],fun j hj=> ?_,fun j p e=> ?_⟩
 ·rw[zuG (by rintro rfl;exact hj hi)];exact h.same j hj
 ·by_cases hij:i=j
  ·subst hij;have:=(zuz.1 e).1;rw[zvf] at this;rw[zuQ this] at e;exact .inr (zuw e▸ho)
  ·rw[zuG hij] at e;exact h.old j p e
theorem Upd.trans{S:Nat→Prop}{g g' g'':XH}(h:Upd S g g')(k:Upd S g' g''):Upd S g g'':=
 ⟨k.len.trans h.len,fun j hj=>(k.same j hj).trans (h.same j hj),fun j o e=>(k.old j o e).elim (fun e=>h.old j o e) (fun l=> .inr (h.len▸l))⟩
theorem qS{W S:Nat→Prop}{g G J:XH}{Ψ:XF→XH→Prop}{u:XF}(h:Upd S g G)(hu:lvF g.length u)(hp:Ψ u G):Gh W g Ψ u (G++J):=
 Gh.fz ⟨h.len,h.len,fun i o e=> .inl ⟨e,h.old i o e⟩,rfl,fun _ _ _ e=>by simp at e,fun _ _ e=>by simp at e⟩ (.lt hu) hp
theorem RdX.junk{α:Type}{enc:α→List XV}{t z:Nat}(he:∀a,(enc a).length=z){g:XH}{i w:Nat}{l:List α}{junk:List XV}(h:g[i]? =some (.own w t z (l.flatMap enc++junk))):RdX g t z enc (.sl i w 0 l.length) l:=by
 refine .inr (.inr ⟨i,w,0,_,rfl,(by simp only[zO,h,if_true];rfl),?_,?_⟩)
 ·rw[zuD,zf he,zve];exact zwD _ _
 ·rw[zvP,zu2,←zf he,zvZ];rfl
def zk9(g:XH)(i k:Nat)(l:List Bu):Prop:=∃w junk,(∀m,zu m junk)∧g[i]? =some (.own 0 263 1 [.sl k w 0 l.length])∧g[k]? =some (.own w 261 3 (l.flatMap z8++junk))
theorem zk9.q{g:XH}{i k:Nat}{l:List Bu}(h:zk9 g i k l):RegQ g i l:=by obtain⟨w,junk,_,h1,h2⟩:=h;exact⟨_,h1,RdX.junk zP h2⟩
theorem znm(l:List Bu)(k:Nat)(hk:k<l.length)(n:Int)(junk:List XV):(l.flatMap z8++junk).set (k*3+2) (xi n)=(l.set k ⟨l[k].c,l[k].y,n⟩).flatMap z8++junk:=by
 rw[←zbi zP hk];have e1:l=l.take k++l[k]::l.drop (k+1):=by rw[←zvc hk,zu7]
 have l1:((l.take k).flatMap z8).length=k*3:=by rw[zf zP,zuR,zvn (by omega)]
 generalize l[k]=x at *;rw[e1];simp only[zvi,zvF,zuX];generalize(l.take k).flatMap z8=P at *;generalize(l.drop (k+1)).flatMap z8=Q at *;rw[←l1,ZV (z8 ⟨x.c,x.y,n⟩) (z8 x) (Q++junk) P rfl,zvK _ _ (by omega),show P.length+2-P.length=2 by omega];rfl
theorem zjz{g:XH}{i k:Nat}{l:List Bu}(h:zk9 g i k l)(hne:i≠k)(hl:l.length≤1000)(c y n:Int):Cl C (fun x=>x=i∨x=k) 212 [.s (.ptr i 0 0),fi c,fi y,fi n] g fun u g'=>u= .tup []∧zk9 g' i k (jw l c y n)∧Upd (fun x=>x=i∨x=k) g g':=by
 have hq:=h.q;obtain⟨w,junk,hj,hi,hk⟩:=h;have li:=ze hi;have lk:=ze hk;obtain⟨cs,hcs⟩:∃cs,cs=l.flatMap z8++junk:=⟨_,rfl⟩
 have hlen:cs.length=l.length*3+junk.length:=by rw[hcs,zuD,zf zP]
 have hcut:zbd cs 0 l.length 3=l.flatMap z8:=by rw[zat,hcs,zvP,zu2,←zf zP,zvZ];rfl
 rw[←hcs] at hk;refine Cl.ip rfl (zuv rfl) fun Ψ hΨ=> ?_;simp;refine zb.go0 (zsk hq hl c y) ?_;simp;have fin:∀(G J:XH) (l1:List Bu) (w1:Nat) (junk1:List XV),l1=jS c y n l→l1.length≤1001→(∀m,zu m junk1)→Upd (fun x=>x=i∨x=k) g G→i<G.length→G[i]? =some (.own 0 263 1 [.sl k w1 0 l1.length])→G[k]? =some (.own w1 261 3 (l1.flatMap z8++junk1))→∀K:XF→XH→Prop,(∀(w2:Nat) (junk2:List XV) (J G':XH),(∀m,zu m junk2)→G'=G.set k (.own w1 261 3 ((jw l c y n).flatMap z8++junk2))→K (.s (.sl k w1 0 (jw l c y n).length)) (G'++J))→xCX C (fun x=>g.length≤x∨(x=i∨x=k)) 269 [.s (.sl k w1 0 l1.length),.s (.v (.fn 270))] (G++J) K .mk:=by intro G J l1 w1 junk1 e1 hl1 hj1 hU liG hiG hkG K hK;have lkG:=ze hkG;refine zb.go (zcl (fi':=287) (q:=fun b=>b.n==0) rfl rfl (by decide) rfl rfl zP (g:=G++J) (k:=k) (w:=w1) (junk:=junk1) (by rw[zq lkG];exact hkG) (by omega) zax hj1 (fun cells J=> .inl ⟨_,rfl,fun x _=>zeroP x _⟩)) (fun x hx e=> .inr (.inr e)) ?_;rintro u g' ⟨junk',hj',rfl,rfl⟩;rw[zkT lkG];subst e1;exact hK w1 junk' J _ hj' rfl
 have pl:=zdS c y n l;have lv:∀m,zu m (cs):=fun m=>by rw[hcs,qc];exact⟨JO m l,hj m⟩
 have done:∀(G:XH) (l1:List Bu) (w1:Nat) (junk1 junk2:List XV) (J G':XH),l1=jS c y n l→(∀m,zu m junk2)→Upd (fun x=>x=i∨x=k) g G→G'=G.set k (.own w1 261 3 ((jw l c y n).flatMap z8++junk2))→Gh (fun x=>x=i∨x=k) g Ψ (.tup []) (G'.set i (.own 0 263 1 [.sl k w1 0 (jw l c y n).length])++J):=by
  rintro G l1 w1 junk1 junk2 J G' _ h2 hU rfl;have u:Upd (fun x=>x=i∨x=k) g ((G.set k (.own w1 261 3 ((jw l c y n).flatMap z8++junk2))).set i (.own 0 263 1 [.sl k w1 0 (jw l c y n).length])):=(hU.set (.inr rfl) (by simp[lvO,h2])).set (.inl rfl) (by simp[lvO,lk]);have hl:=hU.len;refine qS u (by simp) (hΨ _ _ ⟨rfl,⟨w1,junk2,h2,?_,?_⟩,u⟩)
  ·exact yo (by rw[zvf];omega)
  ·rw[zH hne];exact yo (by omega)
 rcases zeE c y n l 0 with⟨e1,e2⟩|⟨k0,e1,hk0,e3⟩
 ·simp[e1];refine zc (fun hc=> ?_) (fun hc=> ?_)
  ·simp at hc;rw[zuF hc] at e2;simp[hi,hk,li,lk,hne,hne.symm,show l.length*3≤cs.length by omega,hcut,show(l.length+1)*24≤140737488355328 by omega,show∀a b d:XV,zbd [a,b,d] 0 1 3=[a,b,d] from fun _ _ _=>rfl];have u:Upd (fun x=>x=i∨x=k) g ((g.set k (.own (w+1) 261 3 (l.flatMap z8++[xi c,xi y,xi n]))).set i (.own 0 263 1 [.sl k (w+1) 0 (l.length+1)])):=(Upd.refl.set (.inr rfl) (by simp[lvO])).set (.inl rfl) (by simp[lvO,lk]);have:=fin _ [.own 0 261 3 [xi c,xi y,xi n]] (l++[⟨c,y,n⟩]) (w+1) [] e2.symm (by simp;omega) (fun m=>by simp[zu]) u (by simpa using li) (by simp[li]) (by simp[hne,hne.symm,lk,z8]);simp only[zuD,zuI] at this;refine this _ ?_;rintro w2 junk2 J G' h2 rfl;simp[li,lk,hi,hne.symm];simpa using done _ _ _ [] junk2 J _ e2.symm h2 u rfl
  ·simp at hc;rw[zuH (by simpa using hc),zu6] at e2;simp[hi,hk,li,lk,hne,hne.symm];have:=fin g [] l w junk e2.symm (by omega) hj Upd.refl li hi (by rw[hk,hcs]);rw[zu6] at this;refine this _ ?_;rintro w2 junk2 J G' h2 rfl;simp[li,lk,hi,hne.symm];simpa using done _ _ _ [] junk2 J _ e2.symm h2 Upd.refl rfl
 ·rw[zve] at e1;have hcn:¬cs=[]:=fun e=>by rw[e] at hlen;simp at hlen;omega
  have hset:cs.set (k0*3+2) (xi n)=(jS c y n l).flatMap z8++junk:=by rw[hcs,znm l k0 hk0,e3]
  have hpl:(jS c y n l).length=l.length:=by rw[e3,zvf]
  simp[e1,hi,hk,li,lk,hk0,hne,hne.symm,hcn,hset,show k0*3+2+1≤cs.length by omega];have u:Upd (fun x=>x=i∨x=k) g (g.set k (.own w 261 3 ((jS c y n l).flatMap z8++junk))):=Upd.refl.set (.inr rfl) (by simp[lvO,hj]);have:=fin _ [] (jS c y n l) w junk rfl (by omega) hj u (by simpa using li) (by simp[hne.symm,hi,hpl]) (by simp[lk]);rw[zu6,hpl] at this;refine this _ ?_;rintro w2 junk2 J G' h2 rfl;simp[li,lk,hi,hne.symm];have:=done _ _ w [] junk2 J _ rfl h2 u rfl;simp at this;exact this
end
theorem FzV.junk{n0:Nat}{J:XH}{K:List (Option Nat)}{O:XH}{i w t z n:Nat}{cs junk:List XV}(h1:n0≤i)(hk:zjm K (i-n0))(h2:J[i-n0]? =some (.own w t z (cs++junk)))(h4:n*z=cs.length)(h5:zu n0 cs)(h6:zu n0 junk):FzV n0 J K O (.sl i w 0 n) (.lst t z n cs):=by
 have:=FzV.sl (o:=0) (n:=n) h1 hk h2 (by rw[zuD,zve,h4];exact zwD _ _) (FzVs.lts (qc.2 ⟨h5,h6⟩):FzVs n0 J K O _ _)
 rwa [zvP,zu2,h4,zvZ rfl] at this
theorem zh6{g:XH}{i:Nat}{l:List Bu}(h:YB g i l)(hl:l.length≤1000):Cl C (fun _=>False) 97 [.s (.ptr i 0 0)] g fun u g'=>u= .s (.ptr (g.length+1) 0 0)∧∃w,g'=g++[.own w 261 3 (l.flatMap z8),.own 0 263 1 [.sl g.length w 0 l.length]]:=by have h1:g[i]? =_:=h;have li:=ze h1;refine Cl.ip rfl (zuv rfl) fun Ψ hΨ=> ?_;simp[h1,li];refine zb.go (JM (enc:=z8) (z:=3) (l:=l) rfl rfl rfl zP (by decide) (RdX.lst g l) (fun a=>zax a _) (by omega)) (fun _ _ h=>h.elim) ?_;rintro u g' ⟨w,rfl,rfl⟩;simp;exact Gh.here (hΨ _ _ ⟨rfl,w,rfl⟩)
theorem zkN{g:XH}{i j k w n:Nat}{cs:List XV}(hi:∃v,g[i]? =some (.own 0 263 1 [v]))(hj:g[j]? =some (.own 0 263 1 [.sl k w 0 n]))(hk:g[k]? =some (.own w 261 3 cs)):Cl C (fun x=>x=i) 213 [.s (.ptr i 0 0),.s (.ptr j 0 0)] g fun u g'=>if 12<n then u=fi 5∧g'=g else u=fi 0∧g'=g.set i (.own 0 263 1 [.sl k w 0 n]):=by
 obtain⟨v,hi⟩:=hi;have li:=ze hi;have lj:=ze hj;have lk:=ze hk;refine Cl.ip rfl (zuv rfl) fun Ψ hΨ=> ?_;simp[hj,hk,lj,lk];refine zc (fun hc=> ?_) (fun hc=> ?_)
 ·simp at hc⊢;exact Gh.here (hΨ _ _ (by rw[zuF (by omega)];exact⟨rfl,rfl⟩))
 ·simp at hc;simp[hi,hj,li,lj];exact Gh.here (hΨ _ _ (by rw[zuH (by omega)];exact⟨rfl,rfl⟩))
def QV(l:List Bu):Prop:=l.length≤12∧(∀b∈l,za b.n=true)∧za (yH l)=true
theorem QV.get{l:List Bu}(h:QV l)(c y:Int):za (getD l c y)=true:=by
 unfold getD;cases e:l.find? (jA c y) with
 |none=>rfl
 |some b=>exact h.2.1 b (zvR e)
def jn(l:List Bu)(c y n:Int):Int×List Bu:=
 if¬yL c y=true∨¬za n=true then(1,l)
 else if¬za (getD l c y+n)=true∨¬za (yH l+n)=true then(6,l)
 else if 12<(jw l c y (getD l c y+n)).length then(5,l) else(0,jw l c y (getD l c y+n))
theorem Jl{a b:Int}(ha:za a=true)(hb:za b=true):IntKind.i64.wrap (a+b)=a+b:=by simp[za] at ha hb;exact zd (by omega) (by omega)
theorem zq2{g:XH}{i:Nat}{l:List Bu}(h:YB g i l)(hI:QV l)(c y n:Int):Cl C (fun x=>x=i) 143 [.s (.ptr i 0 0),fi c,fi y,fi n] g fun u g'=>u=fi (jn l c y n).1∧YB g' i (jn l c y n).2∧Upd (fun x=>x=i) g g':=by
 have h1:g[i]? =_:=h;have li:=ze h1;have hl:=hI.1;refine Cl.ip rfl (zuv rfl) fun Ψ hΨ=> ?_;have no:∀n' J,jn l c y n=(n',l)→Gh (fun x=>x=i) g Ψ (fi n') (g++J):=fun n' J e=>qS (S:=fun x=>x=i) Upd.refl (by simp) (hΨ _ _ ⟨by rw[e],by rw[e];exact h,Upd.refl⟩);have no0:∀n',jn l c y n=(n',l)→Gh (fun x=>x=i) g Ψ (fi n') g:=fun n' e=>by have:=no n' [] e;rwa [zu6] at this
 simp;refine zb.pure (zj2 ..) ?_;simp;refine zc (fun hb=> ?_) (fun hb=> ?_)
 rotate_left
 ·simp;exact no0 1 (by unfold jn;rw[zuF (.inl (by simp[hb]))])
 simp;refine zb.pure (ya ..) ?_;simp;refine zc (fun hm=> ?_) (fun hm=> ?_)
 rotate_left
 ·simp;exact no0 1 (by unfold jn;rw[zuF (.inr (by simp[hm]))])
 have hgm:=hI.get c y;simp;refine zb.go0 (zjw h (by omega) c y) ?_;simp[Jl hgm hm];refine zb.pure (ya ..) ?_;simp;refine zc (fun hs=> ?_) (fun hs=> ?_)
 rotate_left
 ·simp;exact no0 6 (by unfold jn;rw[zuH (by simp[hb,hm]),zuF (.inl (by simp[hs]))])
 simp;refine zb.go0 (ztP h (by omega) hI.2.1) ?_;simp[Jl hI.2.2 hm];refine zb.pure (ya ..) ?_;simp;refine zc (fun ht=> ?_) (fun ht=> ?_)
 rotate_left
 ·simp;exact no0 6 (by unfold jn;rw[zuH (by simp[hb,hm]),zuF (.inr (by simp[ht]))])
 simp;refine zb.go (zh6 h (by omega)) (fun _ _ h=>h.elim) ?_;rintro u g' ⟨rfl,w,rfl⟩;simp;have hj:zk9 (g++[.own w 261 3 (l.flatMap z8),.own 0 263 1 [.sl g.length w 0 l.length]]) (g.length+1) g.length l:=⟨w,[],fun m=>by simp[zu],by simp,by simp⟩
 refine zb.go (zjz hj (by omega) (by omega) c y (getD l c y+n)) (fun x hx e=> .inl (by rcases e with rfl|rfl<;>omega)) ?_;rintro u g' ⟨rfl,⟨w2,junk,hjk,q1,q2⟩,hU⟩;have e0:jn l c y n=if 12<(jw l c y (getD l c y+n)).length then(5,l) else(0,jw l c y (getD l c y+n)):=by unfold jn;rw[zuH (by simp[hb,hm]),zuH (by simp[hs,ht])]
 generalize jw l c y (getD l c y+n)=l' at *;have hgi:g'[i]? =g[i]? :=by rw[hU.same i (by omega),zq li]
 simp;refine zb.go (zkN ⟨_,hgi.trans h1⟩ q1 q2) (fun x hx e=> .inr e) ?_;have hpre:∃J,g'=g++J∧J[0]? =some (.own w2 261 3 (l'.flatMap z8++junk)):=by
  refine⟨g'.drop g.length,?_,?_⟩
  ·have:g'.take g.length=g:=by
    apply zvS;intro j;by_cases hj:j<g.length
    ·rw[zu8,zuF hj,hU.same j (by omega),zq hj]
    ·rw[zu8,zuH hj,zvH (by omega)]
   conv=>lhs;rw[←zu7 g.length g',this]
  ·rw[zvE];exact q2
 obtain⟨J,rfl,hJ⟩:=hpre;rintro u g2 hu;by_cases h12:12<l'.length
 ·rw[zuF h12] at hu e0;obtain⟨rfl,rfl⟩:=hu;simp;exact no 5 J e0
 ·rw[zuH h12] at hu e0;obtain⟨rfl,rfl⟩:=hu;simp[li];refine Gh.fz ((FzH.refl (W:=fun x=>x=i) (J:=J)).put i 0 263 1 rfl (.cons (FzV.junk (cs:=l'.flatMap z8) (junk:=junk) (t:=261) (z:=3) (zuB _) (fun j=>by simp) (by rw[zvy];exact hJ) (by rw[zf zP]) (JO _ _) (hjk _)) .nil)) (.s (.lt (by simp))) (hΨ _ _ ⟨by rw[e0],?_,?_⟩)
  ·rw[e0];exact yo li
  ·exact(Upd.refl (S:=fun x=>x=i)).set (i:=i) rfl (by simp[lvO])
theorem zru{a b:Int}(ha:za a=true)(hb:za b=true):IntKind.i64.wrap (a-b)=a-b:=by simp[za] at ha hb;exact zd (by omega) (by omega)
theorem zml{S:Nat→Prop}{g J g':XH}(h:Upd S (g++J) g')(hS:∀j,j<g.length→¬S j):∃J',g'=g++J'∧∀j,g'[g.length+j]? =J'[j]? :=by
 have e:g'=g++g'.drop g.length:=by
  have:g'.take g.length=g:=by
   apply zvS;intro j;by_cases hj:j<g.length
   ·rw[zu8,zuF hj,h.same j (hS j hj),zq hj]
   ·rw[zu8,zuH hj,zvH (by omega)]
  conv=>lhs;rw[←zu7 g.length g',this]
 exact⟨_,e,fun j=>by rw[zvE]⟩
def z7(l:List Bu)(c y c2 y2 n:Int):Int×List Bu:=
 if¬yL c y=true∨¬yL c2 y2=true∨¬za n=true∨(c=c2∧y=y2) then(1,l)
 else if¬za (getD l c y-n)=true∨¬za (getD l c2 y2+n)=true then(6,l)
 else if 12<(jw (jw l c y (getD l c y-n)) c2 y2 (getD l c2 y2+n)).length then(5,l) else(0,jw (jw l c y (getD l c y-n)) c2 y2 (getD l c2 y2+n))
theorem zor(l:List Bu)(c y n:Int):(jw l c y n).length≤l.length+1:=by have h1:=zv0 (fun b:Bu=> !(b.n==0)) (jS c y n l);have h2:=zdS c y n l;unfold jw;omega
theorem zjy{g:XH}{i:Nat}{l:List Bu}(h:YB g i l)(hI:QV l)(c y c2 y2 n:Int):Cl C (fun x=>x=i) 145 [.s (.ptr i 0 0),fi c,fi y,fi c2,fi y2,fi n] g fun u g'=>u=fi (z7 l c y c2 y2 n).1∧YB g' i (z7 l c y c2 y2 n).2∧Upd (fun x=>x=i) g g':=by
 have h1:g[i]? =_:=h;have li:=ze h1;have hl:=hI.1;refine Cl.ip rfl (zuv rfl) fun Ψ hΨ=> ?_;have no:∀n' J,z7 l c y c2 y2 n=(n',l)→Gh (fun x=>x=i) g Ψ (fi n') (g++J):=fun n' J e=>qS (S:=fun x=>x=i) Upd.refl (by simp) (hΨ _ _ ⟨by rw[e],by rw[e];exact h,Upd.refl⟩);have no0:∀n',z7 l c y c2 y2 n=(n',l)→Gh (fun x=>x=i) g Ψ (fi n') g:=fun n' e=>by have:=no n' [] e;rwa [zu6] at this
 simp
 repeat' first|(refine zc (fun hc=> ?_) (fun hc=> ?_)<;>try simp)|(refine zb.pure (zj2 ..) ?_;try simp)|(refine zb.pure (ya ..) ?_;try simp)
 all_goals try (exact no0 1 (by unfold z7;rw[zuF (by simp_all)]))
 all_goals
  have hm:za n=true:=by assumption
  have hcc:¬(c=c2∧y=y2):=by simp_all
  have hp:¬(¬yL c y=true∨¬yL c2 y2=true∨¬za n=true∨(c=c2∧y=y2)):=by simp_all
  have e0:z7 l c y c2 y2 n=if¬za (getD l c y-n)=true∨¬za (getD l c2 y2+n)=true then(6,l)
   else if 12<(jw (jw l c y (getD l c y-n)) c2 y2 (getD l c2 y2+n)).length then(5,l) else(0,jw (jw l c y (getD l c y-n)) c2 y2 (getD l c2 y2+n)):=by
   unfold z7;rw[zuH hp]
  refine zb.go0 (zjw h (by omega) c y) ?_;simp[zru (hI.get c y) hm];refine zb.go0 (zjw h (by omega) c2 y2) ?_;simp[Jl (hI.get c2 y2) hm]
  repeat' first|(refine zc (fun hc=> ?_) (fun hc=> ?_)<;>try simp)|(refine zb.pure (ya ..) ?_;try simp)
  all_goals try (exact no0 6 (by rw[e0,zuF (by simp_all)]))
  rw[zuH (by simp_all)] at e0;refine zb.go (zh6 h (by omega)) (fun _ _ h=>h.elim) ?_;rintro u g' ⟨rfl,w,rfl⟩;simp;have hj:zk9 (g++[.own w 261 3 (l.flatMap z8),.own 0 263 1 [.sl g.length w 0 l.length]]) (g.length+1) g.length l:=⟨w,[],fun m=>by simp[zu],by simp,by simp⟩
  refine zb.go (zjz hj (by omega) (by omega) c y (getD l c y-n)) (fun x hx e=> .inl (by rcases e with rfl|rfl<;>omega)) ?_;rintro u g1 ⟨rfl,hj1,hU1⟩;have l1:=zor l c y (getD l c y-n);simp;refine zb.go (zjz hj1 (by omega) (by omega) c2 y2 (getD l c2 y2+n)) (fun x hx e=> .inl (by rcases e with rfl|rfl<;>omega)) ?_;rintro u g' ⟨rfl,⟨w2,junk,hjk,q1,q2⟩,hU2⟩;have hU:=hU1.trans hU2;generalize jw (jw l c y (getD l c y-n)) c2 y2 (getD l c2 y2+n)=l' at *;have hgi:g'[i]? =g[i]? :=by rw[hU.same i (by omega),zq li]
  simp;refine zb.go (zkN ⟨_,hgi.trans h1⟩ q1 q2) (fun x hx e=> .inr e) ?_;obtain⟨J,rfl,hJ'⟩:=zml hU (by intro j hj e;omega);have hJ:=(hJ' 0).symm.trans q2;rintro u g2 hu;by_cases h12:12<l'.length
  ·rw[zuF h12] at hu e0;obtain⟨rfl,rfl⟩:=hu;simp;exact no 5 J e0
  ·rw[zuH h12] at hu e0;obtain⟨rfl,rfl⟩:=hu;simp[li];refine Gh.fz ((FzH.refl (W:=fun x=>x=i) (J:=J)).put i 0 263 1 rfl (.cons (FzV.junk (cs:=l'.flatMap z8) (junk:=junk) (t:=261) (z:=3) (zuB _) (fun j=>by simp) (by rw[zvy];exact hJ) (by rw[zf zP]) (JO _ _) (hjk _)) .nil)) (.s (.lt (by simp))) (hΨ _ _ ⟨by rw[e0],?_,?_⟩)
   ·rw[e0];exact yo li
   ·exact(Upd.refl (S:=fun x=>x=i)).set (i:=i) rfl (by simp[lvO])
theorem ztO(g:XH):Cl C (fun _=>False) 133 [] g fun u g'=>u= .s (.ptr g.length 0 0)∧g'=g++[.own 0 263 1 [.lst 261 3 0 []]]:=by
 refine Cl.ip rfl (zuv rfl) fun Ψ hΨ=> ?_;simp;refine Gh.keep [some 0] [.own 0 263 1 [.lst 261 3 0 []]] ⟨rfl,rfl,fun i o e=> .inl ⟨e,.inl e⟩,rfl,?_,?_⟩ (.s (.kptr (j:=0) (k:=0) rfl)) (hΨ _ _ ⟨by simp,rfl⟩)
 ·intro j j' k e e';have h1:=(zuz.1 e).1;have h2:=(zuz.1 e').1;simp at h1 h2;omega
 ·intro j o e;have h1:=(zuz.1 e).1;obtain rfl:j=0:=by simpa using h1
  simp only[zvl,zuu] at e;exact .inr ⟨0,0,_,_,_,_,rfl,rfl,e.symm,.cons .nil .nil⟩
def yM(v:Vi):List XV:=[xi v.o,xi v.e,xi v.n]
theorem zN(b:Vi):(yM b).length=3:=rfl
theorem zfO(b:Vi)(m:Nat):zu m (yM b):=by simp[yM]
@[simp] theorem JP(m:Nat)(l:List Vi):zu m (l.flatMap yM):=zQ (fun a=>zfO a m) l
def zfp(g:XH)(p:XV)(l:List Vi):Prop:=∃v,(p= .lp [v] 0∨∃i,p= .ptr i 0 0∧g[i]? =some (.own 0 295 1 [v]))∧RdX g 327 3 yM v l
theorem zgc{g:XH}{p:XV}{l:List Vi}(h:zfp g p l)(hl:l.length≤1000):Cl C (fun _=>False) 239 [.s p] g (Zp g 327 3 l.length (l.flatMap yM)):=by
 obtain⟨v,hp,hr⟩:=h;refine Cl.ip rfl (zuv rfl) fun Ψ hΨ=> ?_;have hc:=JM (f:=300) (y:=24) (zs:=[.int .i64 0,.int .i64 0,.int .i64 0]) rfl rfl rfl zN (by decide) hr (fun a=>zfO a _) (by omega);rcases hp with rfl|⟨i,rfl,hi⟩
 ·simp;refine zb.go hc (fun _ _ h=>h.elim) ?_;rintro u g' ⟨w,rfl,rfl⟩;simp;exact Gh.here (hΨ _ _ ⟨w,rfl,rfl⟩)
 ·have li:=ze hi;simp[hi,li];refine zb.go hc (fun _ _ h=>h.elim) ?_;rintro u g' ⟨w,rfl,rfl⟩;simp;exact Gh.here (hΨ _ _ ⟨w,rfl,rfl⟩)
theorem zhw{g:XH}{p:XV}{l:List Vi}(h:zfp g p l)(hl:l.length≤1000):Cl C (fun _=>False) 170 [.s p] g fun u g'=>u= .s (.ptr (g.length+1) 0 0)∧∃w,g'=g++[.own w 327 3 (l.flatMap yM),.own 0 295 1 [.sl g.length w 0 l.length]]:=by refine Cl.ip rfl (zuv rfl) fun Ψ hΨ=> ?_;simp;refine zb.go (zgc h hl) (fun _ _ h=>h.elim) ?_;rintro u g' ⟨w,rfl,rfl⟩;simp;exact Gh.here (hΨ _ _ ⟨rfl,w,rfl⟩)
theorem zkp{g:XH}{p:XV}{l:List Vi}(h:zfp g p l)(hl:l.length≤1000)(hm:∀b∈l,za b.n=true):Cl C (fun _=>False) 221 [.s p] g fun u g'=>u=fi (zB l)∧g'=g:=by
 obtain⟨v,hp,hr⟩:=h;refine Cl.ip rfl (zuv rfl) fun Ψ hΨ=> ?_;have main:∀Φ:Ex→XFr→XH→Prop,(∀s,s=zB l→Φ (.exit 0) [(3,some (fi s))] g)→Lp C (fun i=>g.length≤i∨False) [3,9,10,11] l221_0 [(3,some (fi 0)),(9,some (.s v)),(10,some (fi l.length)),(11,some (fi 0))] g Φ:=fun Φ hΦ=>by
  refine Lp.fold (keep:=[3,9,10,11]) l (fun k s=>[(3,some (fi s)),(9,some (.s v)),(10,some (fi l.length)),(11,some (fi k))]) (fun _ _=>g) (fun s b=>s+b.n) 0 (by decide) (fun _ _=>rfl) ?_ ?_
  ·intro k hk s hs hlt N hN;obtain⟨p,cs,o,b1,b2,b3,b4,_⟩:=hr.at zN (by decide) hk;have w:IntKind.i64.wrap (s+l[k].n)=s+l[k].n:=by
    rw[Qz] at hs;have:=zbI Vi.n 100000000000 (by omega) (l.take k) fun b hb=>by simpa[za] using hm b (zvJ hb)
    have h2:za l[k].n=true:=hm _ (zu5 hk);simp[za] at h2;rw[zuR] at this;exact zd (by omega) (by omega)
   generalize l[k]=x at *;simp[l221_0,hk,b1,b2,b3,b4,yM,w,yE hk (by omega)];exact Y9 hN (by simp) (by simpa using hlt)
  ·intro s hs;simp[l221_0];exact hΦ s (by rw[hs,Qz];simp[zB])
 rcases hp with rfl|⟨i,rfl,hi⟩
 ·simp[hr.len];refine main _ fun s hs=> ?_;simp;exact Gh.here (hΨ _ _ ⟨by rw[hs],rfl⟩)
 ·have li:=ze hi;simp[hi,li,hr.len];refine main _ fun s hs=> ?_;simp;exact Gh.here (hΨ _ _ ⟨by rw[hs],rfl⟩)
def zim(o e:Int):Bool:=yO o&&decide (o≤e∧e≤198)
theorem vinRP(o:Int)(e:Int):Pure C 322 [fi o,fi e] (fb (zim o e)):=by
 refine Pure.intro0 (e:=e322) rfl (zuv rfl) (by simp) fun g Ψ h0 hJ=> ?_;simp
 repeat' first|(refine zc (fun hc=> ?_) (fun hc=> ?_)<;>try simp)
 all_goals(simp at *;exact qV h0 (by simp[zim,yO, *]<;>omega))
theorem keyVP(x:Vi)(c y:Int){g:XH}{a b:Nat}(ha:g[a]? =some (.own 0 3 1 [xi c]))(hb:g[b]? =some (.own 0 3 1 [xi y])):Cl C (fun _=>False) 321 [.agg (yM x),.s (.ptr a 0 0),.s (.ptr b 0 0)] g fun u g'=>u=fb (Yt c y x)∧g'=g:=by
 have la:=ze ha;have lb:=ze hb;refine Cl.ip rfl (zuv rfl) fun Ψ hΨ=> ?_;simp[yM,ha,hb,la,lb]
 repeat' first|(refine zc (fun hc=> ?_) (fun hc=> ?_)<;>try simp[yM,ha,hb,la,lb])
 all_goals(refine Gh.pure (.s (.lt (by simp))) (hΨ _ _ ⟨?_,rfl⟩);simp at *;simp[Yt, *])
theorem zun(x:Vi)(g:XH):Cl C (fun _=>False) 319 [.agg (yM x)] g fun u g'=>u=fb (x.n==0)∧g'=g:=by refine Cl.ip rfl (zuv rfl) fun Ψ hΨ=> ?_;simp[yM];exact Gh.pure (.s (.lt (by simp))) (hΨ _ _ ⟨by simp,rfl⟩)
def JB(g:XH)(i k:Nat)(l:List Vi):Prop:=∃w o cs,g[i]? =some (.own 0 295 1 [.sl k w o l.length])∧g[k]? =some (.own w 327 3 cs)∧(o+l.length)*3≤cs.length∧(cs.drop (o*3)).take (l.length*3)=l.flatMap yM∧∀m,zu m cs
theorem JB.q{g:XH}{i k:Nat}{l:List Vi}(h:JB g i k l):zfp g (.ptr i 0 0) l:=by obtain⟨w,o,cs,h1,h2,h3,h4,_⟩:=h;exact⟨_,.inr ⟨i,rfl,h1⟩,.inr (.inr ⟨k,w,o,cs,rfl,by simp[zO,h2],h3,h4⟩)⟩
theorem zfJ{α:Type}{enc:α→List XV}{z:Nat}(he:∀a,(enc a).length=z){cs:List XV}{o:Nat}{l:List α}(h:(cs.drop (o*z)).take (l.length*z)=l.flatMap enc){j:Nat}(hj:j<l.length){c:Nat}(hc:c<z):cs[(o+j)*z+c]? =(enc l[j])[c]? :=by obtain⟨_,_,a3⟩:=atX he hj;rw[←a3 c hc,←h,zu8,zuF,zvE,zvr,zv7];have:(j+1)*z≤l.length*z:=zvd _ hj;rw[zwG] at this;omega
theorem zm4{α:Type}{enc:α→List XV}{z:Nat}(he:∀a,(enc a).length=z){cs:List XV}{o:Nat}{x:α}{l:List α}(h:(cs.drop (o*z)).take ((x::l).length*z)=(x::l).flatMap enc):(cs.drop ((o+1)*z)).take (l.length*z)=l.flatMap enc:=by have e:=congrArg (List.drop z) h;rw[zvF,←he x,List.drop_left' rfl,he x,zwS,zwR,zvk,zwG,zxF] at e;rw[zwG];exact e
def qm(y:Int):List Vi→Int
 |[]=>0
 |v::l=>if v.e<y then v.n+qm y l else 0
def yy(y:Int):List Vi→List Vi
 |[]=>[]
 |v::l=>if v.e<y then yy y l else v::l
theorem zlO{g:XH}{i k:Nat}{l:List Vi}(h:JB g i k l)(hne:i≠k)(hl:l.length≤1000)(hm:∀b∈l,za b.n=true)(y:Int):Cl C (fun x=>x=i) 278 [.s (.ptr i 0 0),fi y] g fun u g'=>u=fi (qm y l)∧JB g' i k (yy y l)∧Upd (fun x=>x=i) g g':=by
 obtain⟨w,o,cs,hi,hk,h3,h4,h5⟩:=h;have li:=ze hi;have lk:=ze hk;refine Cl.ip rfl (zuv rfl) fun Ψ hΨ=> ?_;simp;refine Sc.rule rfl (fun n fr g'=>∃(o:Nat) (r:List Vi) (s:Int),n=r.length∧qm y l=s+qm y r∧yy y l=yy y r∧(∀b∈r,za b.n=true)∧(o+r.length)*3≤cs.length∧(cs.drop (o*3)).take (r.length*3)=r.flatMap yM∧-(100000000000*((l.length:Int)-r.length))≤s∧s≤100000000000*((l.length:Int)-r.length)∧fr=[(0,some (.s (.ptr i 0 0))),(1,some (fi y)),(5,some (fi s))]∧g'=g.set i (.own 0 295 1 [.sl k w o r.length])) l.length [(0,some (.s (.ptr i 0 0))),(1,some (fi y)),(5,some (fi 0))] g ?_ ?_ ?_
 ·simp
 ·exact⟨o,l,0,rfl,by simp,rfl,hm,h3,h4,by omega,by omega,rfl,(y0 hi).symm⟩
 ·rintro n fr g' ⟨o,r,s,rfl,e1,e2,hm,h3,h4,s1,s2,rfl,rfl⟩ hlt P hP;have u:Upd (fun x=>x=i) g (g.set i (.own 0 295 1 [.sl k w o r.length])):=(Upd.refl (S:=fun x=>x=i)).set (i:=i) rfl (by simp[lvO,lk]);have fin:qm y l=s→yy y l=r→Gh (fun x=>x=i) g Ψ (fi s) (g.set i (.own 0 295 1 [.sl k w o r.length])):=fun q1 q2=>by
   refine Gh.here (hΨ _ _ ⟨by rw[q1],?_,u⟩);rw[q2];exact⟨w,o,cs,yo li,by rw[zH hne];exact hk,h3,h4,h5⟩
  cases r with
  |nil=>
   simp[li,lk,hne,hne.symm,hk];exact fin (by rw[e1];simp[qm]) (by rw[e2];rfl)
  |cons v r=>
   have c1:=zfJ zN h4 (j:=0) (by simp) (c:=1) (by decide);have c2:=zfJ zN h4 (j:=0) (by simp) (c:=2) (by decide);have ct:=zm4 zN h4;simp[yM] at c1 c2;have hv:=hm v (by simp);have hw:IntKind.i64.wrap (s+v.n)=s+v.n:=by simp[za] at hv;simp at s1 s2;exact zd (by omega) (by omega)
   simp at h3 hlt;have hcs:¬cs=[]:=fun e=>by rw[e] at h3;simp at h3
   simp[li,lk,hne,hne.symm,hk,c1,c2];refine zc (fun hc=> ?_) (fun hc=> ?_)
   ·simp at hc;simp[li,lk,hne,hne.symm,hk,c1,c2,hw,hcs];refine hP r.length _ _ (by simp) ⟨_,[],(zu6 _).symm,by simp,?_,?_,o+1,r,s+v.n,rfl,?_,?_,fun b hb=>hm b (by simp[hb]),by omega,ct,?_,?_,rfl,rfl⟩
    ·simpa using hlt
    ·intro j o' hj e;by_cases hji:i=j
     ·subst hji;rw[yo li] at e;exact .inr (zuw e▸by simp[lvO,lk])
     ·rw[zH hji] at e;exact .inl (by rw[zH hji];exact e)
    ·rw[e1];simp[qm,hc];omega
    ·rw[e2];simp[yy,hc]
    ·simp[za] at hv;simp at s1;omega
    ·simp[za] at hv;simp at s2;omega
   ·simp at hc;simp;exact fin (by rw[e1];simp[qm,show¬v.e<y by omega]) (by rw[e2];simp[yy,show¬v.e<y by omega])
def cB(b:Bu):List SV:=[.int .i64 b.c,.int .i64 b.y,.int .i64 b.n]
theorem zj3(l:List Bu):(l.flatMap cB).map XV.v=l.flatMap z8:=by rw[zxb];rfl
theorem ltK_B(a b:Bu):ltK [0,1] (cB a) (cB b)=ltB a b:=by simp[ltK,cB,ltB]
theorem zq3{g:XH}{i:Nat}{l:List Bu}(h:YB g i l)(hl:l.length≤1000)(hd:jy ltB l=true):Cl C (fun _=>False) 218 [.s (.ptr i 0 0)] g fun u g'=>u= .s (.lst 261 3 l.length ((zt ltB l).flatMap z8))∧g'=g:=by have h1:g[i]? =_:=h;have li:=ze h1;refine Cl.ip rfl (zuv rfl) fun Ψ hΨ=> ?_;simp[h1,li];refine zb.go (JM (enc:=z8) (z:=3) (l:=l) rfl rfl rfl zP (by decide) (RdX.lst g l) (fun a=>zax a _) (by omega)) (fun _ _ h=>h.elim) ?_;rintro u g' ⟨w,rfl,rfl⟩;simp;refine zb.go (za2 (o:=0) (enc:=cB) (lta:=ltB) rfl (fun _=>rfl) (by decide) (fun a v hv=>by simp[cB] at hv;rcases hv with rfl|rfl|rfl<;>rfl) (fun _=>rfl) ltK_B (l:=l) (cs:=l.flatMap z8) (w:=w) (k:=g.length) (by simp) (by rw[zve,zf zP];exact zuB _) (by rw[zvP,zu2,←zf zP,zu3,zj3]) hd (by omega)) (fun x hx e=> .inl (by omega)) ?_;rintro u g' ⟨rfl,rfl⟩;rw[zj3,zvP,ZU (by rw[zf zP,zf zP,zK])];simp;exact Gh.pure (.s (.full (zuB _) (fun j=>by simp) (by simp) (by rw[zf zP,zK]) (.lts (JO _ _)))) (hΨ _ _ ⟨rfl,rfl⟩)
theorem jP{α:Type}{enc:α→List XV}{z:Nat}(he:∀a,(enc a).length=z){l:List α}{k:Nat}(hk:k<l.length){c:Nat}(hc:c<z){v:XV}{x:α}(hx:(enc l[k]).set c v=enc x)(junk:List XV):(l.flatMap enc++junk).set (k*z+c) v=(l.set k x).flatMap enc++junk:=by
 rw[←zbi he hk,←hx];have e1:l=l.take k++l[k]::l.drop (k+1):=by rw[←zvc hk,zu7]
 have l1:((l.take k).flatMap enc).length=k*z:=by rw[zf he,zuR,zvn (by omega)]
 generalize l[k]=y at *;rw[e1];simp only[zvi,zvF,zuX];generalize(l.take k).flatMap enc=P at *;generalize(l.drop (k+1)).flatMap enc=Q at *;rw[←l1,ZV ((enc y).set c v) (enc y) (Q++junk) P (by simp),zvK _ _ (by omega),show P.length+c-P.length=c by omega,zxw _ _ (by rw[he];exact hc)]
theorem zqj{g r:XH}{x:XO}{k:Nat}(h:k=g.length):(g++x::r)[k]? =some x:=by subst h;exact YI
abbrev zT(n:Int):List XV:=[xi n]
theorem zI(n:Int):(zT n).length=1:=rfl
@[simp] theorem zm9(m:Nat)(l:List Int):zu m (l.flatMap zT):=zQ (fun a=>by simp[zT]) l
def Yc(v:Vi)(n:Int):Vi:={v with n:=v.n-n}
structure Upg(S:Nat→Prop)(g g':XH):Prop where
 le:g.length≤g'.length
 same:∀j:Nat,j<g.length→¬S j→g'[j]? =g[j]?
theorem zbJ(l:List Vi)(us:List Int):za5 l us=(List.zipWith Yc l us).filter fun v=> !(v.n==0):=by unfold za5;rw[List.zip,List.map_zipWith];congr 1
theorem zqA{g:XH}{i k:Nat}{l:List Vi}(h:JB g i k l)(hne:i≠k)(hl:l.length≤1000){uv:XV}{us:List Int}(hu:RdX g 3 1 zT uv us)(hlen:us.length=l.length)(hok:∀j (h1:j<us.length) (h2:j<l.length),0≤us[j]∧us[j]≤l[j].n∧za l[j].n=true):Cl C (fun x=>x=i) 282 [.s (.ptr i 0 0),.s uv] g fun u g'=>u=fi 0∧∃k',g.length≤k'∧i≠k'∧JB g' i k' (za5 l us)∧Upg (fun x=>x=i) g g':=by
 have hQ:=h.q;obtain⟨w,o,cs,hi,hk,h3,h4,h5⟩:=h;have li:=ze hi;have lk:=ze hk;refine Cl.ip rfl (zuv rfl) fun Ψ hΨ=> ?_;simp[hu.len,hi,hk,li,lk,hlen];refine Lp.gen (keep:=[0,1,18,19,20]) us.length (fun q (_:Unit)=>[(0,some (.s (.ptr i 0 0))),(1,some (.s uv)),(18,some (.s uv)),(19,some (fi (l.length:Int))),(20,some (fi (q:Int)))]) (fun _ _=>g) (fun _ _=>True) () (by decide) (fun _ _=>rfl) trivial ?_ ?_
 ·intro q hq _ _ hlt N hN;have hql:q<l.length:=by omega
  obtain⟨p,cs',o',b1,b2,b3,b4,b5⟩:=hu.at zI (by decide) hq;have b6:=b5 rfl _ rfl;have c2:=zfJ zN h4 hql (c:=2) (by decide);obtain⟨q1,q2,q3⟩:=hok q hq hql;simp[yM] at c2;generalize us[q]=un at *;generalize l[q]=lv at *;simp[l282_0,hql,b1,b2,b6,hi,hk,li,lk,c2,show¬un<0 by omega,show¬lv.n<un by omega,yE hq (by omega)];exact qC () hN trivial (by simp) (by simpa using hlt)
 ·intro _ _;rw[hlen];simp[l282_0];refine zb.go (zgc hQ hl) (fun _ _ h=>h.elim) ?_;rintro u g' ⟨w1,rfl,rfl⟩;have hu':RdX (g++[XO.own w1 327 3 (l.flatMap yM)]) 3 1 zT uv us:=hu.app;simp[hu'.len,hlen];refine Lp.gen (keep:=[0,7,42,43,44]) us.length (fun q (_:Unit)=>[(0,some (.s (.ptr i 0 0))),(7,some (.s (.sl g.length w1 0 l.length))),(42,some (.s uv)),(43,some (fi (l.length:Int))),(44,some (fi (q:Int)))]) (fun q _=>g++[.own w1 327 3 ((List.zipWith Yc (l.take q) (us.take q)++l.drop q).flatMap yM)]) (fun _ _=>True) () (by decide) (fun _ _=>rfl) trivial ?_ ?_
  ·intro q hq _ _ hlt N hN;have hql:q<l.length:=by omega
   have hu'':RdX (g++[XO.own w1 327 3 ((List.zipWith Yc (l.take q) (us.take q)++l.drop q).flatMap yM)]) 3 1 zT uv us:=hu.app;obtain⟨p,cs',o',b1,b2,b3,b4,b5⟩:=hu''.at zI (by decide) hq;have b6:=b5 rfl _ rfl;obtain⟨q1,q2,q3⟩:=hok q hq hql;obtain⟨M,hM⟩:∃M,M=List.zipWith Yc (l.take q) (us.take q)++l.drop q:=⟨_,rfl⟩
   have hMl:M.length=l.length:=by rw[hM];simp;omega
   have hzl:(List.zipWith Yc (l.take q) (us.take q)).length=q:=by simp;omega
   have hMq:M[q]'(by omega)=l[q]:=by
    have e:M[q]? =l[q]? :=by rw[hM,zuC (by omega),hzl,zvy,zvE,zv1]
    rw[zuJ (by omega),zuJ hql] at e;exact zuw e
   have hM2:List.zipWith Yc (l.take (q+1)) (us.take (q+1))++l.drop (q+1)=M.set q (Yc l[q] us[q]):=by have e1:l.take (q+1)=l.take q++[l[q]]:=zuT hql;have e2:us.take (q+1)=us.take q++[us[q]]:=zuT hq;rw[hM,e1,e2,List.zipWith_append (by simp;omega),zvK _ _ (by omega),hzl,zvy,zvc hql,zuX];rfl
   rw[hM2] at hN;rw[←hM] at hN hlt b1 b2⊢;obtain⟨a1,a2,a3⟩:=atX zN (l:=M) (k:=q) (by omega);have a4:=a3 2 (by decide);rw[hMq] at a4;have hs:=jP zN (l:=M) (k:=q) (by omega) (c:=2) (by decide) (v:=xi (l[q].n-us[q])) (x:=Yc l[q] us[q]) (by rw[hMq];rfl) [];simp only[zu6] at hs;have hcs:¬M.flatMap yM=[]:=fun e=>by rw[e] at a1;simp at a1
   have hw:IntKind.i64.wrap (l[q].n-us[q])=l[q].n-us[q]:=by simp[za] at q3;exact zd (by omega) (by omega)
   have ha3:q*3+2+1≤(M.flatMap yM).length:=by omega
   have hv2:=fun m=>JP m (M.set q (Yc l[q] us[q]));generalize M.flatMap yM=MC at *;generalize(M.set q (Yc l[q] us[q])).flatMap yM=MC2 at *;simp[yM] at a4;generalize us[q]=un at *;generalize l[q]=lv at *;simp[l282_1,hql,b1,b2,b6,a4,hs,hcs,hw,ha3,yE hq (by omega)];refine hN () _ _ trivial ⟨by simp,⟨[],by simp⟩,by simp,?_,?_⟩
   ·simpa using hlt
   ·exact .loc (by simp[lvO,hv2])
  ·intro _ _;rw[hlen,zu3,zvq (by omega),zxN,zu6];have hz:(List.zipWith Yc l us).length=l.length:=by simp;omega
   have hdel:=zcl (f:=318) (fi':=320) (c:= .v (.fn 319)) (q:=fun b=>b.n==0) rfl rfl (by decide) rfl rfl zN (g:=g++[XO.own w1 327 3 ((List.zipWith Yc l us).flatMap yM)]) (l:=List.zipWith Yc l us) (k:=g.length) (w:=w1) (junk:=[]) (by simp) (by omega) zfO (fun m=>by simp[zu]) (fun cells J=> .inl ⟨_,rfl,fun x _=>zun x _⟩);rw[hz] at hdel;simp[l282_1];refine zb.go hdel (fun x hx e=> .inl (by omega)) ?_;rintro u g' ⟨junk,hj,rfl,rfl⟩;have ht:=zbJ l us;rw[←ht];simp[li,hi];refine Gh.here (hΨ _ _ ⟨rfl,g.length,zuB _,by omega,⟨w1,0,(za5 l us).flatMap yM++junk,by rw[zq (by simpa using li)];exact yo li,?_,?_,?_,?_⟩,⟨by simp,?_⟩⟩)
   ·exact zqj (by simp)
   ·rw[zuD,zf zN,zve];exact zwD _ _
   ·rw[zvP,zu2,←zf zN,zvZ];rfl
   ·exact fun m=>qc.2 ⟨JP m _,hj m⟩
   ·intro j hj hs;rw[zq (by simpa using hj),zH (by omega)]
section
attribute [-simp] zbd
theorem zlo{α:Type}{enc:α→List XV}{z:Nat}(he:∀a,(enc a).length=z){cs:List XV}{o:Nat}{l:List α}(h1:(o+l.length)*z≤cs.length)(h2:(cs.drop (o*z)).take (l.length*z)=l.flatMap enc):∃pre post,cs=pre++(l.flatMap enc++post)∧pre.length=o*z:=by
 refine⟨cs.take (o*z),(cs.drop (o*z)).drop (l.length*z),?_,?_⟩
 ·rw[←h2,zu7,zu7]
 ·rw[zvr] at h1;rw[zuR];omega
def cV(b:Vi):List SV:=[.int .i64 b.o,.int .i64 b.e,.int .i64 b.n]
theorem zj6(l:List Vi):(l.flatMap cV).map XV.v=l.flatMap yM:=by rw[zxb];rfl
theorem ltK_V(a b:Vi):ltK [1,0] (cV a) (cV b)=ltV a b:=by simp[ltK,cV,ltV]
theorem zg3{α:Type}{lt:α→α→Bool}{x:α}:∀{l:List α},jy lt l=true→(∀y∈l,(lt y x||lt x y)=true)→jy lt (l++[x])=true
 |[],_,_=>rfl
 |y::l,h,k=>by
  simp only[jy,zuE,zuV] at h;simp only[zvX,jy,zuE,zuV];refine⟨fun b hb=> ?_,zg3 h.2 fun b hb=>k b (by simp[hb])⟩;rcases zuM.1 hb with hb|hb
  ·exact h.1 b hb
  ·obtain rfl:b=x:=by simpa using hb
   exact k y (by simp)
def QJ(o e n:Int):List Vi→List Vi
 |[]=>[]
 |x::l=>if Yt o e x then⟨x.o,x.e,x.n+n⟩::l else x::QJ o e n l
theorem zdd(o e n:Int):∀(l:List Vi) (k:Nat),(ym (Yt o e) k l= -1∧l.any (Yt o e)=false)∨∃i,ym (Yt o e) k l=((k+i:Nat):Int)∧l.any (Yt o e)=true∧∃h:i<l.length,QJ o e n l=l.set i ⟨l[i].o,l[i].e,l[i].n+n⟩
 |[],k=> .inl ⟨rfl,rfl⟩
 |x::l,k=>by
  unfold ym QJ;cases hx:Yt o e x with
  |true=>exact .inr ⟨0,rfl,by simp[hx],zxU _,by simp⟩
  |false=>
   rcases zdd o e n l (k+1) with⟨e1,e2⟩|⟨i,e1,e2,e3,e4⟩
   ·exact .inl ⟨by simp[e1],by simp[hx,e2]⟩
   ·exact .inr ⟨i+1,by simp[e1];omega,by simp[hx,e2],by simpa using e3,by simp[e4]⟩
def QI(l:List Vi)(o e n:Int):Int×List Vi:=
 if¬zim o e=true∨n<1∨¬za n=true then(1,l)
 else if¬za (zB l+n)=true then(6,l)
 else if l.any (Yt o e) then(0,QJ o e n l)
 else if 12≤l.length then(5,l)
 else(0,zt ltV (l++[⟨o,e,n⟩]))
theorem zfp.app{g J:XH}{p:XV}{l:List Vi}(h:zfp g p l):zfp (g++J) p l:=by
 obtain⟨v,h1|⟨i,h1,h2⟩,h3⟩:=h
 ·exact⟨v,.inl h1,h3.app⟩
 ·exact⟨v,.inr ⟨i,h1,by rw[zq (ze h2)];exact h2⟩,h3.app⟩
theorem ztj{g:XH}{i k:Nat}{l:List Vi}(h:JB g i k l)(hne:i≠k)(hl:l.length≤1000)(hm:∀b∈l,za b.n=true)(hL:za (zB l)=true)(hd:jy ltV l=true)(o' e' n:Int):Cl C (fun x=>x=i∨x=k) 283 [.s (.ptr i 0 0),fi o',fi e',fi n] g fun u g'=>u=fi (QI l o' e' n).1∧JB g' i k (QI l o' e' n).2∧Upd (fun x=>x=i∨x=k) g g':=by
 have hM:=h;have hQ:=h.q;obtain⟨w,o,cs,hi,hk,h3,h4,h5⟩:=h;have li:=ze hi;have lk:=ze hk;have hr:RdX g 327 3 yM (.sl k w o l.length) l:= .inr (.inr ⟨k,w,o,cs,rfl,by simp[zO,hk],h3,h4⟩);refine Cl.ip rfl (zuv rfl) fun Ψ hΨ=> ?_;have no:∀n' J,QI l o' e' n=(n',l)→Gh (fun x=>x=i∨x=k) g Ψ (fi n') (g++J):=fun n' J q=>qS (S:=fun x=>x=i∨x=k) Upd.refl (by simp) (hΨ _ _ ⟨by rw[q],by rw[q];exact hM,Upd.refl⟩);simp[hi,hk,li,lk];refine zb.go0 (Ys (f:=320) rfl zN (by decide) hr.app (by omega) (.inr ⟨g.length+2,321,[],[.s (.ptr g.length 0 0),.s (.ptr (g.length+1) 0 0)],rfl,by simp,fun x _=>keyVP x o' e' (by simp) (by simp)⟩)) ?_;simp
 repeat' first|(refine zc (fun hc=> ?_) (fun hc=> ?_)<;>try simp)|(refine zb.pure (vinRP ..) ?_;try simp)|(refine zb.pure (ya ..) ?_;try simp)
 all_goals try ((try simp only[zuK,zvx] at *);exact no 1 _ (by unfold QI;rw[zuF (by clear no hΨ;simp_all)]))
 have hn:za n=true:=by assumption
 have hp:¬(¬zim o' e'=true∨n<1∨¬za n=true):=by clear no hΨ;simp_all
 have e0:QI l o' e' n=if¬za (zB l+n)=true then(6,l)
  else if l.any (Yt o' e') then(0,QJ o' e' n l)
  else if 12≤l.length then(5,l)
  else(0,zt ltV (l++[⟨o',e',n⟩])):=by unfold QI;rw[zuH hp]
 refine zb.go0 (zkp hQ.app hl hm) ?_;simp[Jl hL hn];refine zb.pure (ya ..) ?_;simp;refine zc (fun hc=> ?_) (fun hc=> ?_)
 rotate_left
 ·simp;exact no 6 _ (by rw[e0,zuF (by simp[hc])])
 simp;rw[zuH (by simp[hc])] at e0;rcases zdd o' e' n l 0 with⟨q1,q2⟩|⟨j,q1,q2,hj,q3⟩
 ·rw[q2] at e0;rw[zuH (by simp)] at e0;simp[q1,hi,hk,li,lk];refine zc (fun hc=> ?_) (fun hc=> ?_)
  ·simp at hc;simp;exact no 5 _ (by rw[e0,zuF (by omega)])
  ·simp at hc;rw[zuH (by omega)] at e0;have hcut:zbd cs o l.length 3=l.flatMap yM:=by rw[zat,h4]
   simp[hi,hk,li,lk,hne,hne.symm,h3,hcut,show(l.length+1)*24≤140737488355328 by omega,show∀a b d:XV,zbd [a,b,d] 0 1 3=[a,b,d] from fun _ _ _=>rfl];have hda:jy ltV (l++[⟨o',e',n⟩])=true:=zg3 hd fun y hy=>by rw[List.any_eq_false] at q2;have:=q2 y hy;simp[Yt] at this;simp[ltV];omega
   have f1:(l++[(⟨o',e',n⟩:Vi)]).flatMap yM=l.flatMap yM++[xi o',xi e',xi n]:=by simp[yM]
   have:=za2 (C:=C) (f:=323) (t:=327) (z:=3) (cf:=324) (lt:=ltK [1,0]) (okr:=okT [true,true,true]) (o:=0) (enc:=cV) (lta:=ltV) rfl (fun _=>rfl) (by decide) (fun a v hv=>by simp[cV] at hv;rcases hv with rfl|rfl|rfl<;>rfl) (fun _=>rfl) ltK_V (l:=l++[⟨o',e',n⟩]) (cs:=l.flatMap yM++[xi o',xi e',xi n]) (w:=w+1) (k:=k) (g:=(g.set k (.own (w+1) 327 3 (l.flatMap yM++[xi o',xi e',xi n]))).set i (.own 0 295 1 [.sl k (w+1) 0 (l.length+1)])++[.own 0 3 1 [xi o'],.own 0 3 1 [xi e'],.clo 321 [] [.s (.ptr g.length 0 0),.s (.ptr (g.length+1) 0 0)],.own 0 327 3 [xi o',xi e',xi n]]) (by simp[lk,hne,hne.symm]) (by rw[zve,←f1,zf zN];exact zuB _) (by rw[zvP,zu2,←f1,←zf zN,zu3,zj6]) hda (by simp;omega);rw[zuD,zuI] at this;refine zb.go this (fun x hx e=> .inr (.inr e)) ?_;rintro u g' ⟨rfl,rfl⟩;rw[zj6,zvP,ZU (by rw[←f1,zf zN,zf zN,zK])];have u:Upd (fun x=>x=i∨x=k) g (((g.set k (.own (w+1) 327 3 (l.flatMap yM++[xi o',xi e',xi n]))).set i (.own 0 295 1 [.sl k (w+1) 0 (l.length+1)])).set k (.own (w+1) 327 3 ((zt ltV (l++[⟨o',e',n⟩])).flatMap yM))):=((Upd.refl.set (.inr rfl) (by simp[lvO])).set (.inl rfl) (by simp[lvO,lk])).set (.inr rfl) (by simp[lvO]);simp[lk];refine qS u (by simp) (hΨ _ _ ⟨by rw[e0],?_,u⟩);rw[e0];refine⟨w+1,0,(zt ltV (l++[⟨o',e',n⟩])).flatMap yM,?_,?_,?_,?_,fun m=>JP m _⟩
   ·rw[zH hne.symm,yo (by simpa using li),zK];simp
   ·exact yo (by simpa using lk)
   ·rw[zf zN,zve];exact zuB _
   ·rw[zvP,zu2,←zf zN,zu3]
 ·rw[zve] at q1;rw[q2,zuF rfl] at e0;obtain⟨pre,post,hcs,hpre⟩:=zlo zN h3 h4;have c2:=zfJ zN h4 hj (c:=2) (by decide);simp[yM] at c2;have hjm:l[j]∈l:=zu5 hj;have hw:IntKind.i64.wrap (l[j].n+n)=l[j].n+n:=Jl (hm _ hjm) hn;have hcl:(o+j)*3+2+1≤cs.length:=by
   have:(o+j+1)*3≤(o+l.length)*3:=zvd _ (by omega);omega
  have hcn:¬cs=[]:=fun e=>by rw[e] at hcl;simp at hcl
  have hset:cs.set ((o+j)*3+2) (xi (l[j].n+n))=pre++((QJ o' e' n l).flatMap yM++post):=by rw[hcs,zvK _ _ (by omega),show(o+j)*3+2-pre.length=j*3+2 by omega,jP zN hj (c:=2) (by decide) (x:=⟨l[j].o,l[j].e,l[j].n+n⟩) rfl,q3]
  have hpl:(QJ o' e' n l).length=l.length:=by rw[q3,zvf]
  have hpost:∀m,zu m post:=fun m=>by have:=h5 m;rw[hcs,qc,qc] at this;exact this.2.2
  have hprel:∀m,zu m pre:=fun m=>by have:=h5 m;rw[hcs,qc] at this;exact this.1
  simp[q1,hi,hk,li,lk,hne,hne.symm,hj,c2,hw,hcl,hcn,hset];have u:Upd (fun x=>x=i∨x=k) g (g.set k (.own w 327 3 (pre++((QJ o' e' n l).flatMap yM++post)))):=Upd.refl.set (.inr rfl) (by simp[lvO,hpost,hprel]);refine qS u (by simp) (hΨ _ _ ⟨by rw[e0],?_,u⟩);rw[e0];refine⟨w,o,pre++((QJ o' e' n l).flatMap yM++post),?_,yo lk,?_,?_,fun m=>by simp[hprel,hpost]⟩
  ·rw[zH hne.symm,hi,hpl]
  ·rw[hcs] at h3;simp only[zuD,zf zN,hpl] at h3⊢;exact h3
  ·rw[List.drop_left' hpre,←zf zN,zvZ];rfl
end
def Ju(l:List Int):Bool:=l.all za&&za l.sum
theorem zam{α:Type}{q:α→Bool}{l:List α}{k:Nat}(hk:k<l.length):(l.take (k+1)).all q=((l.take k).all q&&q l[k]):=by rw[zuT hk,List.all_append];simp
theorem zq0{g:XH}{v:XV}{l:List Int}(hr:RdX g 3 1 zT v l)(hl:l.length≤1000):Cl C (fun _=>False) 316 [.s v] g fun u g'=>u= .tup [fi (if Ju l then l.sum else 0),fb (Ju l)]∧g'=g:=by
 refine Cl.ip rfl (zuv rfl) fun Ψ hΨ=> ?_;simp[hr.len];refine Lp.gen (keep:=[4,7,8,9]) l.length (fun k s=>[(4,some (fi s)),(7,some (.s v)),(8,some (fi l.length)),(9,some (fi (k:Int)))]) (fun _ _=>g) (fun k s=>s=(l.take k).sum∧(l.take k).all za=true) 0 (by decide) (fun _ _=>rfl) (by simp) ?_ ?_
 ·rintro k hk s ⟨rfl,ha⟩ hlt N hN;obtain⟨p,cs,o,b1,b2,b3,b4,b5⟩:=hr.at zI (by decide) hk;have b6:=b5 rfl _ rfl;have hall:=zam (q:=za) hk;have hsum:(l.take (k+1)).sum=(l.take k).sum+l[k]:=by rw[zuT hk,zwL,zxE]
  have hb:=zbI (fun n:Int=>n) 100000000000 (by omega) (l.take k) fun b hb=>by simpa[za] using(zuV.1 ha) b hb
  rw[zuR] at hb;simp only[List.map_id'] at hb;have hx:l[k]∈l:=zu5 hk;simp[l316_0,hk,b1,b2,b6];refine zb.pure (ya ..) ?_;simp;refine zc (fun hc=> ?_) (fun hc=> ?_)
  ·have hw:IntKind.i64.wrap ((l.take k).sum+l[k])=(l.take k).sum+l[k]:=by
    simp[za] at hc;exact zd (by omega) (by omega)
   simp[hw,yE hk (by omega)];exact qC ((l.take k).sum+l[k]) hN ⟨hsum.symm,by rw[hall,ha,hc];rfl⟩ (by simp) (by simpa using hlt)
  ·have e:Ju l=false:=by
    unfold Ju;rw[zwU];left;rw[zxm];exact⟨_,hx,by simp[hc]⟩
   simp;exact Gh.here (hΨ _ _ ⟨by simp[e],rfl⟩)
 ·rintro s ⟨rfl,ha⟩;rw[zu3] at ha⊢;simp[l316_0];refine zb.pure (ya ..) ?_;simp;refine zc (fun hc=> ?_) (fun hc=> ?_)
  ·simp;exact Gh.here (hΨ _ _ ⟨by simp[Ju,ha,hc],rfl⟩)
  ·simp;exact Gh.here (hΨ _ _ ⟨by simp[Ju,ha,hc],rfl⟩)
def Jt(book perm moved:Int):Bool:=za moved&&Ju [book,perm,-moved]
theorem zqq(b p m:Int):Pure C 277 [fi b,fi p,fi m] (.tup [fi (if Jt b p m then b+p-m else 0),fb (Jt b p m)]):=by
 refine Pure.intro0 (e:=e277) rfl (zuv rfl) (by simp) fun g Ψ h0 hJ=> ?_;simp;refine zb.pure (ya ..) ?_;simp;refine zc (fun hc=> ?_) (fun hc=> ?_)
 ·have hw:IntKind.i64.wrap (-m)= -m:=by
   simp[za] at hc;exact zd (by omega) (by omega)
  simp[hw];have hr:RdX (g++[XO.own 0 3 1 [xi b,xi p,xi (-m)]]) 3 1 zT (.sl g.length 0 0 3) [b,p,-m]:=RdX.sl (l:=[b,p,-m]) zI (by simp);refine zb.go0 (zq0 hr (by simp)) ?_;simp;have e:Jt b p m=Ju [b,p,-m]:=by simp[Jt,hc]
  refine qV (hJ _) ?_;rw[e];simp[zxg,zxJ]
 ·simp;exact qV h0 (by simp[Jt,hc])
def Zu(n r:Int):Bool:=za n&&decide (0≤n)&&zm r
theorem zs7(n r:Int):Pure C 317 [fi n,fi r] (.tup [fi (if Zu n r then(n*r).tdiv 1000000 else 0),fb (Zu n r)]):=by
 refine Pure.intro0 (e:=e317) rfl (zuv rfl) (by simp) fun g Ψ h0 hJ=> ?_;simp
 repeat' first|(refine zc (fun hc=> ?_) (fun hc=> ?_)<;>try simp)|(refine zb.pure (ya ..) ?_;try simp)|(refine zb.pure (q8 ..) ?_;try simp)
 all_goals(refine qV h0 ?_)
 all_goals try (have hf:Zu n r=false:=(by(try simp only[zuK,zvx] at *);simp[Zu, *]<;>omega);simp[hf];done)
 ·have hn:za n=true:=by assumption
  have hr:zm r=true:=by assumption
  have h0':0≤n:=by simp at *;omega
  have hf:Zu n r=true:=by simp[Zu, *]
  have hn':=hn;have hr':=hr;simp[za] at hn';simp[zm] at hr';have b:=Y6 (n:=n) (r:=r) (N:=100000000000) (R:=1000000) (by omega) (by omega) (by omega);have w:IntKind.i64.wrap (n*r)=n*r:=zd (by omega) (by omega);rw[hf,w];simp;exact zgI (by unfold zlH;omega) 1000000 (by omega)
def jv(n m:Int):Int:=if 1≤n∧Zu n m=true then(n*m).tdiv 1000000 else 0
theorem ztS(n m:Int):Pure C 280 [fi n,fi m] (fi (jv n m)):=by
 refine Pure.intro0 (e:=e280) rfl (zuv rfl) (by simp) fun g Ψ h0 hJ=> ?_;simp
 repeat' first|(refine zc (fun hc=> ?_) (fun hc=> ?_)<;>try simp)|(refine zb.pure (zs7 ..) ?_;try simp)
 all_goals(refine qV h0 ?_;simp at *)
 ·simp[jv,show¬1≤n by omega]
 ·simp[jv,show 1≤n by omega]
def qf(y left:Int)(v:Vi):Int:=if y≤v.e then min v.n left else 0
def j8(y:Int):Int→List Vi→List Int
 |_,[]=>[]
 |left,v::l=>qf y left v::j8 y (left-qf y left v) l
def Jr(y:Int):Int→List Vi→Int
 |left,[]=>left
 |left,v::l=>Jr y (left-qf y left v) l
theorem zfk(y:Int):∀(l:List Vi) (left:Int) (k:Nat) (hk:k<l.length),j8 y left (l.take (k+1))=j8 y left (l.take k)++[qf y (Jr y left (l.take k)) l[k]]∧Jr y left (l.take (k+1))=Jr y left (l.take k)-qf y (Jr y left (l.take k)) l[k]
 |[],_,k,hk=>by simp at hk
 |v::l,left,0,_=>by simp[j8,Jr]
 |v::l,left,k+1,hk=>by have:=zfk y l (left-qf y left v) k (by simpa using hk);simp only[zuU,j8,Jr,zv5,zvX];exact⟨by rw[this.1],this.2⟩
theorem YR(y:Int):∀(l:List Vi) (left:Int),(j8 y left l).length=l.length
 |[],_=>rfl
 |v::l,left=>by simp[j8,YR y l]
theorem zhq(y:Int):∀(l:List Vi) (left:Int),0≤left→(∀v∈l,0≤v.n)→0≤Jr y left l∧Jr y left l≤left
 |[],_,h,_=>⟨h,Int.le_refl _⟩
 |v::l,left,h,hv=>by
  have h0:=hv v (by simp);have:0≤qf y left v∧qf y left v≤left:=by unfold qf;split<;>omega
  have:=zhq y l (left-qf y left v) (by omega) fun x hx=>hv x (by simp[hx]);simp only[Jr];omega
theorem zmm{g:XH}{v:XV}{l:List Vi}(hr:RdX g 327 3 yM v l)(hl:l.length≤1000)(y room:Int)(hroom:0≤room∧room≤100000000000)(hm:∀v∈l,0≤v.n∧za v.n=true):Cl C (fun _=>False) 279 [.s v,fi y,fi room] g (Zp g 3 1 l.length ((j8 y room l).flatMap zT)):=by
 refine Cl.ip rfl (zuv rfl) fun Ψ hΨ=> ?_;have hmax:(if 0<room then room else 0)=room:=by split<;>omega
 simp[hr.len,hmax];refine Lp.ghost 3 1 (fr2:=[(1,some (fi y)),(7,some (fi room)),(8,some (.s (.sl g.length 0 0 0))),(14,some (.s v)),(15,some (fi l.length)),(16,some (fi 0))]) (by simp[GhF]) ?_;refine Lp.gen (keep:=[1,7,8,14,15,16]) (σ:=Nat) l.length (fun k w=>[(1,some (fi y)),(7,some (fi (Jr y room (l.take k)))),(8,some (.s (.sl g.length w 0 k))),(14,some (.s v)),(15,some (fi l.length)),(16,some (fi (k:Int)))]) (fun k w=>g++[.own w 3 1 ((j8 y room (l.take k)).flatMap zT)]) (fun _ _=>True) 0 (by decide) (fun _ _=>rfl) trivial ?_ ?_
 ·intro k hk w _ hlt N hN;have hr2:RdX (g++[XO.own w 3 1 ((j8 y room (l.take k)).flatMap zT)]) 327 3 yM v l:=hr.app;obtain⟨p,cs,o,b1,b2,b3,b4,_⟩:=hr2.at zN (by decide) hk;obtain⟨e1,e2⟩:=zfk y l room k hk;have hb:=zhq y (l.take k) room hroom.1 fun v hv=>(hm v (zvJ hv)).1;have hx:=hm l[k] (zu5 hk);have hvl:(j8 y room (l.take k)).length=k:=by rw[YR,zuR];omega
  have hfl:((j8 y room (l.take k)).flatMap zT).length=k:=by rw[zf zI,hvl];omega
  have hlv:∀m,zu m ((j8 y room (l.take k)).flatMap zT):=fun m=>zQ (fun a=>by simp[zT,zu]) _;have hn:=yE hk (by omega);rw[e1,e2] at hN;rw[zvi] at hN;generalize(j8 y room (l.take k)).flatMap zT=F at *;generalize Jr y room (l.take k)=left at *;generalize l[k]=x at *;have hvn:0≤qf y left x∧qf y left x≤left:=by unfold qf;split<;>omega
  have hw:IntKind.i64.wrap (left-qf y left x)=left-qf y left x:=zd (by omega) (by omega);simp[l279_0,hk,b1,b2,b3,b4,yM];refine zc (fun hc=> ?_) (fun hc=> ?_)
  ·simp at hc;have hv:qf y left x=min x.n left:=by unfold qf;rw[zuF hc]
   have hmin:(if left<x.n then left else x.n)=qf y left x:=by rw[hv];split<;>omega
   simp[hmin,hw,hfl,hn,show(k+1)*8≤140737488355328 by omega];refine hN (w+1) _ _ trivial ⟨by simp,⟨[_,_],by rw[zuX];rfl⟩,by simp,by simpa using hlt,.loc (by simp[lvO,hlv,zT])⟩
  ·simp at hc;have hv:qf y left x=0:=by unfold qf;rw[zuH (by omega)]
   rw[hv,Int.sub_zero] at hw hN;simp[hw,hfl,hn,show(k+1)*8≤140737488355328 by omega];refine hN (w+1) _ _ trivial ⟨by simp,⟨[_,_],by rw[zuX];rfl⟩,by simp,by simpa using hlt,.loc (by simp[lvO,hlv,zT])⟩
 ·intro w _;rw[zu3];simp[l279_0];exact Gh.here (hΨ _ _ ⟨w,rfl,rfl⟩)
theorem zrr{g:XH}{v:XV}{l:List Int}(hr:RdX g 3 1 zT v l)(hl:l.length≤1000)(hm:∀n∈l,za n=true):Cl C (fun _=>False) 281 [.s v] g fun u g'=>u=fi l.sum∧g'=g:=by
 refine Cl.ip rfl (zuv rfl) fun Ψ hΨ=> ?_;simp[hr.len];refine Lp.gen (keep:=[3,6,7,8]) l.length (fun k s=>[(3,some (fi s)),(6,some (.s v)),(7,some (fi l.length)),(8,some (fi (k:Int)))]) (fun _ _=>g) (fun k s=>s=(l.take k).sum) 0 (by decide) (fun _ _=>rfl) (by simp) ?_ ?_
 ·rintro k hk s rfl hlt N hN;obtain⟨p,cs,o,b1,b2,b3,b4,b5⟩:=hr.at zI (by decide) hk;have b6:=b5 rfl _ rfl;have hsum:(l.take (k+1)).sum=(l.take k).sum+l[k]:=by rw[zuT hk,zwL,zxE]
  have hb:=zbI (fun n:Int=>n) 100000000000 (by omega) (l.take k) fun b hb=>by simpa[za] using hm b (zvJ hb)
  rw[zuR] at hb;simp only[List.map_id'] at hb;have hx:=hm l[k] (zu5 hk);have hw:IntKind.i64.wrap ((l.take k).sum+l[k])=(l.take k).sum+l[k]:=by simp[za] at hx;exact zd (by omega) (by omega)
  simp[l281_0,hk,b1,b2,b6,hw,yE hk (by omega)];exact qC ((l.take k).sum+l[k]) hN hsum.symm (by simp) (by simpa using hlt)
 ·rintro s rfl;rw[zu3];simp[l281_0];exact Gh.here (hΨ _ _ ⟨rfl,rfl⟩)
theorem curRP(y:Int):Pure C 276 [fi y] (fb (yO y)):=by
 refine Pure.intro0 (e:=e276) rfl (zuv rfl) (by simp) fun g Ψ h0 hJ=> ?_;simp
 repeat' first|(refine zc (fun hc=> ?_) (fun hc=> ?_)<;>try simp)
 all_goals(simp at *;exact qV h0 (by simp[yO, *]<;>omega))
abbrev Yv(l:List Int):XV:= .lst 3 1 l.length (l.flatMap zT)
def zG(r:Res):List XV:=[xi r.income,xi r.expired,xi r.used,xi r.new,xi r.taxable,xi r.tax,Yv r.vec]
abbrev lpV(l:List Vi):XV:= .lp [.lst 327 3 l.length (l.flatMap yM)] 0
theorem JB.same{g G:XH}{i k:Nat}{l:List Vi}(h:JB g i k l)(e1:G[i]? =g[i]?)(e2:G[k]? =g[k]?):JB G i k l:=by obtain⟨w,o,cs,h1,h2,h3⟩:=h;exact⟨w,o,cs,e1.trans h1,e2.trans h2,h3⟩
theorem JB.fz{g J:XH}{i k:Nat}{l:List Vi}(h:JB (g++J) i k l)(hi:g.length≤i)(hk:g.length≤k):FzV g.length J [] [] (.ptr i 0 0) (lpV l):=by obtain⟨w,o,cs,h1,h2,h3,h4,h5⟩:=h;rw[zuC hi] at h1;rw[zuC hk] at h2;have:=FzV.sl (n0:=g.length) (J:=J) (K:=[]) (O:=[]) (o:=o) (n:=l.length) hk (fun j=>by simp) h2 h3 (.lts (h5 _));rw[h4] at this;exact FzV.ptr hi (fun j=>by simp) h1 (by simp) (.cons this .nil)
structure LosI(l:List Vi):Prop where
 len:l.length≤12
 m:∀v∈l,0≤v.n∧za v.n=true
 t:za (zB l)=true
 d:jy ltV l=true
theorem JV:∀{l:List Vi},(∀v∈l,0≤v.n∧za v.n=true)→0≤zB l
 |[],_=>by simp[zB]
 |v::l,h=>by have h1:=h v (by simp);have h2:=JV (l:=l) fun x hx=>h x (by simp[hx]);simp only[zB,zuS,zwh] at h2⊢;omega
theorem LosI.kept(y:Int):∀{l:List Vi},LosI l→LosI (yy y l)
 |[],h=>h
 |v::l,h=>by
  unfold yy;split
  ·refine LosI.kept y ⟨by have:=h.len;simp at this;omega,fun x hx=>h.m x (by simp[hx]),?_,?_⟩
   ·have h1:=h.t;have h2:=(h.m v (by simp)).1;have h3:=JV (l:=l) fun x hx=>h.m x (by simp[hx]);simp only[zB,zuS,zwh,za,zuK] at h1 h3;exact zvz (by unfold zB;constructor<;>omega)
   ·have:=h.d;simp only[jy,zuE] at this;exact this.2
  ·exact h
theorem Qf(n cap:Int)(h:za n=true):0≤jv n cap∧jv n cap≤100000000000∧(1≤n→jv n cap≤n):=by
 unfold jv;split
 ·rename_i hc;have hf:=hc.2;simp[Zu,zm,za] at hf h;have h1:n*cap≤n*1000000:=zwu hf.2.2 (by omega);have h0:0≤n*cap:=zw6 (by omega) hf.2.1;rw[zvW h0];omega
 ·omega
theorem zgL(y:Int):∀(l:List Vi) (left:Int),0≤left→(∀v∈l,0≤v.n)→∀j (h1:j<(j8 y left l).length) (h2:j<l.length),0≤(j8 y left l)[j]∧(j8 y left l)[j]≤l[j].n
 |[],_,_,_,j,_,h2=>by simp at h2
 |v::l,left,h,hv,j,h1,h2=>by
  have h0:=hv v (by simp);have:0≤qf y left v∧qf y left v≤left∧qf y left v≤v.n:=by unfold qf;split<;>omega
  cases j with
  |zero=>simp only[j8,List.getElem_cons_zero];omega
  |succ j=>
   simp only[j8,zv5];exact zgL y l _ (by omega) (fun x hx=>hv x (by simp[hx])) j _ _
theorem za6(y:Int):∀(l:List Vi) (left:Int),0≤left→(∀v∈l,0≤v.n)→0≤(j8 y left l).sum∧(j8 y left l).sum≤left
 |[],_,h,_=>by simp[j8];omega
 |v::l,left,h,hv=>by
  have h0:=hv v (by simp);have:0≤qf y left v∧qf y left v≤left:=by unfold qf;split<;>omega
  have:=za6 y l (left-qf y left v) (by omega) fun x hx=>hv x (by simp[hx]);simp only[j8,zwh];omega
def Zz(l:List Vi)(book perm moved cap life year r:Int):Int×Res×List Vi:=
 if¬zm cap=true∨¬zm r=true∨¬yO life=true∨¬yO year=true then(1,qH,[])
 else if¬Jt book perm moved=true then(6,qH,[])
 else
  let n:=book+perm-moved;let k:=yy year l;let gone:=qm year l
  if 0<n then
   let v:=j8 year (jv n cap) k
   (0,⟨n,gone,v.sum,0,n-v.sum,zg (n-v.sum) r,v⟩,za5 k v)
  else if n<0 then
   let a:=QI k year (year+life) (-n)
   if a.1=0 then(0,⟨n,gone,0,-n,0,zg 0 r,[]⟩,a.2) else(a.1,qH,[])
  else(0,⟨n,gone,0,0,0,zg 0 r,[]⟩,k)
def zjP(x:Int×Res×List Vi):XF:=if x.1=0 then .tup [.agg (zG x.2.1),.s (lpV x.2.2),fi 0] else .tup [.agg (zG qH),.s (.v .nilp),fi x.1]
theorem zsR{g:XH}{p:XV}{l:List Vi}(h:zfp g p l)(hI:LosI l)(book perm moved cap life year r:Int):Cl C (fun _=>False) 220 [.s p,fi book,fi perm,fi moved,fi cap,fi life,fi year,fi r] g fun u g'=>u=zjP (Zz l book perm moved cap life year r)∧g'=g:=by
 refine Cl.ip rfl (zuv rfl) fun Ψ hΨ=> ?_;have l0:∀n,lvV g.length (xi n):=fun n=>by simp
 have bad:∀e J,e≠0→Zz l book perm moved cap life year r=(e,qH,[])→Gh (fun _=>False) g Ψ (.tup [.agg [xi 0,xi 0,xi 0,xi 0,xi 0,xi 0,.v .nils],.s (.v .nilp),fi e]) (g++J):=fun e J he hx=>
  Gh.pure (.cons (.agg (.cons (.lt (l0 _)) (.cons (.lt (l0 _)) (.cons (.lt (l0 _)) (.cons (.lt (l0 _)) (.cons (.lt (l0 _)) (.cons (.lt (l0 _)) (.cons (.nil (t:=3) (z:=1)) .nil)))))))) (.cons (.s (.lt (by simp))) (.cons (.s (.lt (l0 _))) .nil))) (hΨ _ _ ⟨by rw[hx];simp[zjP,he,zG,qH],rfl⟩)
 have badG:∀e (G:XH),e≠0→Zz l book perm moved cap life year r=(e,qH,[])→(∀j,j<g.length→G[j]? =g[j]?)→g.length≤G.length→Gh (fun _=>False) g Ψ (.tup [.agg [xi 0,xi 0,xi 0,xi 0,xi 0,xi 0,.v .nils],.s (.v .nilp),fi e]) G:=by
  intro e G he hx hp hl;have e1:G=g++G.drop g.length:=by
   have:G.take g.length=g:=by
    apply zvS;intro j;by_cases hj:j<g.length
    ·rw[zu8,zuF hj,hp j hj]
    ·rw[zu8,zuH hj,zvH (by omega)]
   conv=>lhs;rw[←zu7 g.length G,this]
  rw[e1];exact bad e _ he hx
 have good:∀(G:XH) (res:Res) (k':Nat) (l':List Vi) (vv:XV),Zz l book perm moved cap life year r=(0,res,l')→g.length≤k'→(∀j,j<g.length→G[j]? =g[j]?)→g.length≤G.length→JB G (g.length+2) k' l'→FzV g.length (G.drop g.length) [] [] vv (Yv res.vec)→Gh (fun _=>False) g Ψ (.tup [.agg [xi res.income,xi res.expired,xi res.used,xi res.new,xi res.taxable,xi res.tax,vv],.s (.ptr (g.length+2) 0 0),fi 0]) G:=by
  intro G res k' l' vv hx hk hp hl hM hv;have e:G=g++G.drop g.length:=by
   have:G.take g.length=g:=by
    apply zvS;intro j;by_cases hj:j<g.length
    ·rw[zu8,zuF hj,hp j hj]
    ·rw[zu8,zuH hj,zvH (by omega)]
   conv=>lhs;rw[←zu7 g.length G,this]
  rw[e] at hM;rw[e];exact Gh.pure (.cons (.agg (.cons (.lt (l0 _)) (.cons (.lt (l0 _)) (.cons (.lt (l0 _)) (.cons (.lt (l0 _)) (.cons (.lt (l0 _)) (.cons (.lt (l0 _)) (.cons hv .nil)))))))) (.cons (.s (hM.fz (by omega) hk)) (.cons (.s (.lt (l0 _))) .nil))) (hΨ _ _ ⟨by rw[hx];simp[zjP,zG],rfl⟩)
 simp
 repeat' first|(refine zc (fun hc=> ?_) (fun hc=> ?_)<;>try simp)|(refine zb.pure (q8 ..) ?_;try simp)|(refine zb.pure (curRP ..) ?_;try simp)
 all_goals try (exact bad 1 _ (by decide) (by unfold Zz;rw[zuF (by clear bad badG good hΨ;simp_all)]))
 have hp:¬(¬zm cap=true∨¬zm r=true∨¬yO life=true∨¬yO year=true):=by clear bad badG good hΨ;simp_all
 have hry:zm r=true∧yO life=true∧yO year=true:=by clear bad badG good hΨ;simp_all
 refine zb.pure (zqq ..) ?_;simp;refine zc (fun hc=> ?_) (fun hc=> ?_)
 rotate_left
 ·simp;exact bad 6 _ (by decide) (by unfold Zz;rw[zuH hp,zuF (by simp[hc])])
 rw[hc]
 have e0:Zz l book perm moved cap life year r=
  let n:=book+perm-moved
  if 0<n then(0,⟨n,qm year l,(j8 year (jv n cap) (yy year l)).sum,0,n-(j8 year (jv n cap) (yy year l)).sum,zg (n-(j8 year (jv n cap) (yy year l)).sum) r,j8 year (jv n cap) (yy year l)⟩,za5 (yy year l) (j8 year (jv n cap) (yy year l)))
  else if n<0 then
   if(QI (yy year l) year (year+life) (-n)).1=0 then(0,⟨n,qm year l,0,-n,0,zg 0 r,[]⟩,(QI (yy year l) year (year+life) (-n)).2) else((QI (yy year l) year (year+life) (-n)).1,qH,[])
  else(0,⟨n,qm year l,0,0,0,zg 0 r,[]⟩,yy year l):=by
  unfold Zz;rw[zuH hp,zuH (by simp[hc])]
 have hnm:za (book+perm-moved)=true:=by simp[Jt,Ju] at hc;rw[zxg,zxJ];exact hc.2.2
 generalize book+perm-moved=n at *;simp only at e0;simp;have hl:=hI.len;refine zb.go (zhw h.app (by omega)) (fun _ _ h=>h.elim) ?_;rintro u g' ⟨rfl,w,rfl⟩;simp;have hM:JB ((g++[.own 0 79 7 [xi 0,xi 0,xi 0,xi 0,xi 0,xi 0,.v .nils]])++[.own w 327 3 (l.flatMap yM),.own 0 295 1 [.sl (g.length+1) w 0 l.length]]) (g.length+2) (g.length+1) l:=⟨w,0,l.flatMap yM,by simp,by simp,by rw[zf zN,zve];exact zuB _,by rw[zvP,zu2,←zf zN,zu3],fun m=>JP m l⟩
 simp at hM;refine zb.go (zlO hM (by omega) (by omega) (fun v hv=>(hI.m v hv).2) year) (fun x hx e=> .inl (by omega)) ?_;rintro u g' ⟨rfl,hM',hU⟩;have hZ:g'[g.length]? =some (.own 0 79 7 [xi 0,xi 0,xi 0,xi 0,xi 0,xi 0,.v .nils]):=by rw[hU.same g.length (by omega)];simp
 have hpre:∀j,j<g.length→g'[j]? =g[j]? :=fun j hj=>by rw[hU.same j (by omega),zq hj]
 have hgl:g'.length=g.length+3:=by rw[hU.len];simp
 clear hU hM;simp;refine⟨by omega,?_⟩;refine zc (fun hn=> ?_) (fun hn=> ?_)
 ·simp at hn;rw[zuF hn] at e0;have hK:=hI.kept year;have hM2:∀J,JB (g'++J) (g.length+2) (g.length+1) (yy year l):=fun J=>hM'.same (zq (by omega)) (zq (by omega));simp;refine zb.go (Fresh.frz (zgc (hM2 _).q (by have:=hK.len;omega)) (JP _ _) (by rw[zf zN])) (fun _ _ h=>h.elim) ?_;rintro u g2 ⟨rfl,rfl⟩;simp;refine zb.pure (ztS ..) ?_;have hroom:=Qf n cap hnm;simp;refine zb.go (Fresh.frz (zmm (RdX.lst _ _) (by have:=hK.len;omega) year (jv n cap) ⟨hroom.1,hroom.2.1⟩ hK.m) (zQ (fun a=>by simp[zT]) _) (by rw[zf zI,YR])) (fun _ _ h=>h.elim) ?_;rintro u g2 ⟨rfl,rfl⟩;have hv1:=zgL year (yy year l) (jv n cap) hroom.1 (fun v hv=>(hK.m v hv).1);have hv2:=za6 year (yy year l) (jv n cap) hroom.1 (fun v hv=>(hK.m v hv).1);have hv3:=YR year (yy year l) (jv n cap);have hkm:∀(j:Nat) (h:j<(yy year l).length),za (yy year l)[j].n=true:=fun j h=>(hK.m _ (zu5 h)).2;have hkl:=hK.len;generalize jv n cap=room at *;rw[←hv3];generalize j8 year room (yy year l)=vec at *;have hvm:∀x∈vec,za x=true:=fun x hx=>by
   obtain⟨j,hj,rfl⟩:=zwN hx;have:=hv1 j hj (by omega);have h2:=hkm j (by omega);simp[za] at h2⊢;omega
  simp;refine⟨by omega,?_⟩;have hRd:∀g:XH,RdX g 3 1 zT (Yv vec) vec:=fun g=>RdX.lst g vec;refine zb.go (zrr (hRd _) (by omega) hvm) (fun _ _ h=>h.elim) ?_;rintro u g2 ⟨rfl,rfl⟩;simp;refine⟨by omega,?_⟩;refine zb.go (zqA (hM2 _) (by omega) (by omega) (hRd _) hv3 fun j h1 h2=>⟨(hv1 j h1 h2).1,(hv1 j h1 h2).2,hkm j h2⟩) (fun x hx e=> .inl (by omega)) ?_;rintro u g2 ⟨rfl,k2,hk1,hk2,hA,hU⟩;simp at hk1;have hZ2:g2[g.length]? =some (.own 0 79 7 [xi 0,xi 0,xi 0,xi 0,xi 0,xi 0,.v .nils]):=by rw[hU.same g.length (by simp;omega) (by omega),zq (by omega)];exact hZ
  have hR2:g2[g'.length]? =some (.own 0 79 7 [xi n,xi (qm year l),xi vec.sum,xi 0,xi 0,xi 0,Yv vec]):=by rw[hU.same g'.length (by simp) (by omega)];exact YI
  have hpre2:∀j,j<g.length→g2[j]? =g[j]? :=fun j hj=>by rw[hU.same j (by simp;omega) (by omega),zq (by omega),hpre j hj]
  have hl2:g.length+4≤g2.length:=by have:=hU.le;simp at this;omega
  clear hU;have w1:IntKind.i64.wrap (n-vec.sum)=n-vec.sum:=by simp[za] at hnm;exact zd (by omega) (by omega)
  have w2:IntKind.i64.wrap (n-vec.sum+0)=n-vec.sum:=by rw[zxR];exact w1
  simp[hZ2,hR2,w1,w2,show g.length<g2.length by omega,show g'.length<g2.length by omega];refine⟨by omega,?_⟩;refine zb.pure (ofX ..) ?_;have hne2:∀X,(g2.set g'.length X)[g.length]? =g2[g.length]? :=fun X=>zH (by omega);simp[hZ2,hR2,hne2,show g.length<g2.length by omega,show g'.length<g2.length by omega,show g.length≤g'.length by omega];refine good _ ⟨n,qm year l,vec.sum,0,n-vec.sum,zg (n-vec.sum) r,vec⟩ k2 _ _ e0 (by omega) (fun j hj=> ?_) (by simp;omega) (hA.same ?_ ?_) (.lt (by simp))
  ·rw[zH (by omega),zH (by omega),hpre2 j hj]
  ·rw[zH (by omega),zH (by omega)]
  ·rw[zH (by omega),zH (by omega)]
 ·simp at hn;rw[zuH (by omega)] at e0;simp;refine zc (fun hn'=> ?_) (fun hn'=> ?_)
  ·simp at hn';rw[zuF hn'] at e0;have hK:=hI.kept year;have wy:IntKind.i64.wrap (year+life)=year+life:=by
    have:=hry.2;simp[yO] at this;exact zd (by omega) (by omega)
   have wn:IntKind.i64.wrap (-n)= -n:=by simp[za] at hnm;exact zd (by omega) (by omega)
   simp[wy,wn];refine⟨by omega,?_⟩;have hM2:JB (g'++[.own 0 79 7 [xi n,xi (qm year l),xi 0,xi (-n),xi 0,xi 0,.v .nils]]) (g.length+2) (g.length+1) (yy year l):=hM'.same (zq (by omega)) (zq (by omega));refine zb.go (ztj hM2 (by omega) (by have:=hK.len;omega) (fun v hv=>(hK.m v hv).2) hK.t hK.d year (year+life) (-n)) (fun x hx e=> .inl (by omega)) ?_;rintro u g2 ⟨rfl,hA,hU⟩;simp;have hZ2:g2[g.length]? =some (.own 0 79 7 [xi 0,xi 0,xi 0,xi 0,xi 0,xi 0,.v .nils]):=by rw[hU.same g.length (by omega),zq (by omega)];exact hZ
   have hR2:g2[g'.length]? =some (.own 0 79 7 [xi n,xi (qm year l),xi 0,xi (-n),xi 0,xi 0,.v .nils]):=by rw[hU.same g'.length (by omega)];exact YI
   have hpre2:∀j,j<g.length→g2[j]? =g[j]? :=fun j hj=>by rw[hU.same j (by omega),zq (by omega),hpre j hj]
   have hl2:g2.length=g.length+4:=by rw[hU.len];simp;omega
   clear hU;refine zc (fun ha=> ?_) (fun ha=> ?_)
   ·simp at ha;simp[hZ2,hR2,show g.length<g2.length by omega,show g'.length<g2.length by omega];refine badG _ _ ha (by rw[e0,zuH ha]) (fun j hj=> ?_) (by simp;omega);rw[zH (by omega),hpre2 j hj]
   ·simp at ha;simp[hZ2,hR2,show g.length<g2.length by omega,show g'.length<g2.length by omega];rw[zuF ha] at e0;have wnn:IntKind.i64.wrap n=n:=zjS hnm;have w0:IntKind.i64.wrap (n+ -n)=0:=by rw[Int.add_right_neg];rfl
    simp[wnn,w0];refine⟨by omega,?_⟩;refine zb.pure (ofX ..) ?_;have hne2:∀X,(g2.set g'.length X)[g.length]? =g2[g.length]? :=fun X=>zH (by omega);simp[hZ2,hR2,hne2,show g.length<g2.length by omega,show g'.length<g2.length by omega,show g.length≤g'.length by omega];refine good _ ⟨n,qm year l,0,-n,0,zg 0 r,[]⟩ (g.length+1) _ _ e0 (by omega) (fun j hj=> ?_) (by simp;omega) (hA.same ?_ ?_) .nil
    ·rw[zH (by omega),zH (by omega),hpre2 j hj]
    ·rw[zH (by omega),zH (by omega)]
    ·rw[zH (by omega),zH (by omega)]
  ·simp at hn';rw[zuH (by omega)] at e0;obtain rfl:n=0:=by omega
   have w0:IntKind.i64.wrap 0=0:=rfl;simp[w0];refine⟨by omega,?_⟩;refine zb.pure (ofX ..) ?_;simp[hZ,show g.length<g'.length by omega,show g.length≤g'.length by omega];refine good _ ⟨0,qm year l,0,0,0,zg 0 r,[]⟩ (g.length+1) (yy year l) _ e0 (by omega) (fun j hj=> ?_) (by simp;omega) (hM'.same ?_ ?_) .nil
   ·rw[zq (by simp;omega),zH (by omega),hpre j hj]
   ·rw[zq (by simp;omega),zH (by omega)]
   ·rw[zq (by simp;omega),zH (by omega)]
end
end Go.Proofs.YtdmcfjkgopmlgaaGreatDoor.Ev.CA
namespace Go.Proofs.YtdmcfjkgopmlgaaGreatDoor.Ev
open Go
section
attribute [-simp] List.length_flatMap getElem?_pos
theorem FzF.i{n0:Nat}{J:XH}{K:List (Option Nat)}{O:XH}{n:Int}:FzF n0 J K O ((.s (.v (.int .i64 n)))) ((.s (.v (.int .i64 n)))):= .s (.lt (by simp))
theorem FzF.b{n0:Nat}{J:XH}{K:List (Option Nat)}{O:XH}{n:Bool}:FzF n0 J K O ((.s (.v (.bool n)))) ((.s (.v (.bool n)))):= .s (.lt (by simp))
theorem FzF.t2{n0:Nat}{J:XH}{K:List (Option Nat)}{O:XH}{a a' b b':XF}(h1:FzF n0 J K O a a')(h2:FzF n0 J K O b b'):FzF n0 J K O (.tup [a,b]) (.tup [a',b']):= .cons h1 (.cons h2 .nil)
theorem FzV.fl{α:Type}{enc:α→List XV}{z:Nat}(he:∀a,(enc a).length=z)(hv:∀(m:Nat) (a:α),zu m (enc a)){n0:Nat}{J:XH}{i w t:Nat}{l:List α}(h1:n0≤i)(h2:J[i-n0]? =some (.own w t z (l.flatMap enc))):FzV n0 J [] [] (.sl i w 0 l.length) (.lst t z l.length (l.flatMap enc)):=
 .full h1 (fun j=>by simp) h2 (by rw[zf he]) (.lts (zQ (hv n0) l))
theorem jf{g J:XH}{A A' A0:XO}{F fr:XFr}{N:XFr→XH→Prop}(hN:∀fr' g',Nxt (g++[A0]) F (g++[A']) fr' g'→N fr' g')(hA:A=A')(hf:fr=F)(hl:qi (g++[A']).length F)(ho:lvO (g++[A']).length A'):N fr (g++A::J):=by subst hA;refine zgj hN J (by simp) hf hl (by simp) ?_;intro o h;rw[zu9] at h;subst h;exact ho
theorem zjp{g J:XH}{A A' A0 B B' B0:XO}{F fr:XFr}{N:XFr→XH→Prop}(hN:∀fr' g',Nxt (g++[A0,B0]) F (g++[A',B']) fr' g'→N fr' g')(hA:A=A')(hB:B=B')(hf:fr=F)(hl:qi (g++[A',B']).length F)(ho:lvO (g++[A',B']).length A')(ho2:lvO (g++[A',B']).length B'):N fr (g++A::B::J):=by
 subst hA;subst hB;refine zgj hN J (by simp) hf hl (by simp) ?_;intro o h;rcases zuO.1 h with rfl|h
 ·exact ho
 ·rw[zu9] at h;subst h;exact ho2
end
end Go.Proofs.YtdmcfjkgopmlgaaGreatDoor.Ev
namespace Go.Proofs.YtdmcfjkgopmlgaaGreatDoor.Ev.CA
open Go
section
attribute [-simp] List.length_flatMap getElem?_pos
def zhV:XFr→Nat→XF→XFr
 |[],_,_=>[]
 |(m,x)::r,n,v=>if m=n then(m,some v)::r else(m,x)::zhV r n v
def qk(fr:XFr):List (Nat×XF)→XFr
 |[]=>fr
 |(n,v)::r=>qk (zhV fr n v) r
theorem zob{n:Nat}{v:XF}:zhV [] n v=[]:=rfl
theorem zlT{m n:Nat}{x:Option XF}{r:XFr}{v:XF}:zhV ((m,x)::r) n v=if m=n then(m,some v)::r else(m,x)::zhV r n v:=rfl
theorem zoL{fr:XFr}:qk fr []=fr:=rfl
theorem zfj{fr:XFr}{n:Nat}{v:XF}{r:List (Nat×XF)}:qk fr ((n,v)::r)=qk (zhV fr n v) r:=rfl
attribute [simp] zob zlT zoL zfj
theorem ze5(n:Nat)(v:XF):∀(fr:XFr),(zhV fr n v).map (·.1)=fr.map (·.1)
 |[]=>rfl
 |(m,x)::r=>by
  unfold zhV;split
  ·rfl
  ·simp[ze5 n v r]
theorem YQ:∀(l:List (Nat×XF)) (fr:XFr),(qk fr l).map (·.1)=fr.map (·.1)
 |[],_=>rfl
 |(n,v)::r,fr=>by rw[zfj,YQ r,ze5]
theorem Lp.foldU{α σ:Type}{B:Nat→Prop}{keep:List Nat}{b:EC}{Φ:Ex→XFr→XH→Prop}{fr:XFr}{g:XH}(l:List α)(V:Nat→σ→List (Nat×XF))(G:Nat→σ→XH)(step:σ→α→σ)(s0:σ)(hk:keep.Nodup)(hF:fr.map (·.1)=keep)(h0:fr=qk fr (V 0 s0))(hg:g=G 0 s0)
 (body:∀k (hk:k<l.length) (s:σ),s=(l.take k).foldl step s0→qi (G k s).length (qk fr (V k s))→∀N:XFr→XH→Prop,(∀fr' g',Nxt (G k s) (qk fr (V (k+1) (step s l[k]))) (G (k+1) (step s l[k])) fr' g'→N fr' g')→wk C B b (qk fr (V k s)) (G k s) (KLx N keep Φ))
 (fin:∀s,s=l.foldl step s0→wk C B b (qk fr (V l.length s)) (G l.length s) (KLx (fun _ _=>False) keep Φ)):
 Lp C B keep b fr g Φ:=by
 have:=Lp.fold (C:=C) (B:=B) (b:=b) (Φ:=Φ) (keep:=keep) l (fun k s=>qk fr (V k s)) G step s0 hk (fun k s=>(YQ _ _).trans hF) body fin;rw[←h0,←hg] at this;exact this
theorem Lp.genU{σ:Type}{B:Nat→Prop}{keep:List Nat}{b:EC}{Φ:Ex→XFr→XH→Prop}{fr:XFr}{g:XH}(n:Nat)(V:Nat→σ→List (Nat×XF))(G:Nat→σ→XH)(P:Nat→σ→Prop)(s0:σ)(hk:keep.Nodup)(hF:fr.map (·.1)=keep)(h0:fr=qk fr (V 0 s0))(hg:g=G 0 s0)(p0:P 0 s0)
 (body:∀k (hk:k<n) (s:σ),P k s→qi (G k s).length (qk fr (V k s))→∀N:XFr→XH→Prop,(∀s' fr' g',P (k+1) s'→Nxt (G k s) (qk fr (V (k+1) s')) (G (k+1) s') fr' g'→N fr' g')→wk C B b (qk fr (V k s)) (G k s) (KLx N keep Φ))
 (fin:∀s,P n s→wk C B b (qk fr (V n s)) (G n s) (KLx (fun _ _=>False) keep Φ)):
 Lp C B keep b fr g Φ:=by
 have:=Lp.gen (C:=C) (B:=B) (b:=b) (Φ:=Φ) (keep:=keep) n (fun k s=>qk fr (V k s)) G P s0 hk (fun k s=>(YQ _ _).trans hF) p0 body fin;rw[←h0,←hg] at this;exact this
theorem Lp.genG{σ:Type}{B:Nat→Prop}{keep:List Nat}{b:EC}{Φ:Ex→XFr→XH→Prop}{fr:XFr}{g:XH}(t z:Nat)(n:Nat)(V:Nat→σ→List (Nat×XF))(G:Nat→σ→XH)(P:Nat→σ→Prop)(s0:σ)(hk:keep.Nodup)(hF:fr.map (·.1)=keep)(h0:GhF g.length fr (qk fr (V 0 s0)))(hg:G 0 s0=g++[.own 0 t z []])(p0:P 0 s0)
 (body:∀k (hk:k<n) (s:σ),P k s→qi (G k s).length (qk fr (V k s))→∀N:XFr→XH→Prop,(∀s' fr' g',P (k+1) s'→Nxt (G k s) (qk fr (V (k+1) s')) (G (k+1) s') fr' g'→N fr' g')→wk C B b (qk fr (V k s)) (G k s) (KLx N keep Φ))
 (fin:∀s,P n s→wk C B b (qk fr (V n s)) (G n s) (KLx (fun _ _=>False) keep Φ)):
 Lp C B keep b fr g Φ:=by
 have:=Lp.gen (C:=C) (B:=B) (b:=b) (Φ:=Φ) (keep:=keep) n (fun k s=>qk fr (V k s)) G P s0 hk (fun k s=>(YQ _ _).trans hF) p0 body fin;rw[hg] at this;exact Lp.ghost t z h0 this
theorem RdX.atJ{α:Type}{enc:α→List XV}{t z:Nat}(he:∀a,(enc a).length=z)(hz:z≠0){g:XH}{v:XV}{l:List α}(r:RdX g t z enc v l){k:Nat}(hk:k<l.length):∃p cs o,jQ g t z (k:Int) (.s v)=some p∧rdX g (.s p)=some (cs,o)∧(∀J,jQ (g++J) t z (k:Int) (.s v)=some p∧rdX (g++J) (.s p)=some (cs,o))∧o+z≤cs.length∧(cs.drop o).take z=enc l[k]∧∀c,c<z→cs[o+c]? =(enc l[k])[c]? :=by
 have fin:∀(cs:List XV) o,o+z≤cs.length→(cs.drop o).take z=enc l[k]→o+z≤cs.length∧(cs.drop o).take z=enc l[k]∧∀c,c<z→cs[o+c]? =(enc l[k])[c]? :=fun cs o h1 h2=>by refine⟨h1,h2,fun c hc=> ?_⟩;rw[←h2,zu8,zuF hc,zvE]
 obtain⟨a1,a2,_⟩:=atX he hk;rcases r with⟨rfl,_⟩|rfl|⟨i,w,o,cs,rfl,h,h1,h2⟩
 ·simp at hk
 ·exact⟨.lp (l.flatMap enc) (k*z),_,_,by simp[jQ,hk],rfl,fun J=>⟨by simp[jQ,hk],rfl⟩,fin _ _ a1 a2⟩
 ·have e1:(o+k)*z=o*z+k*z:=zvr _ _ _;have e2:(o+l.length)*z=o*z+l.length*z:=zvr _ _ _;have e3:(k+1)*z≤l.length*z:=zvd _ hk;rw[zwG] at e3;have hJ:∀J,zO (g++J) i w=some (t,z,cs):=fun J=>zcR h;refine⟨.ptr i w ((o+k)*z),cs,(o+k)*z,by simp only[jQ,h,and_self,if_true,zxC,Int.ofNat_lt,hk,zxH],by simp only[rdX,h],fun J=>⟨by simp only[jQ,hJ J,and_self,if_true,zxC,Int.ofNat_lt,hk,zxH],by simp only[rdX,hJ J]⟩,fin _ _ (by omega) ?_⟩;rw[←a2,←h2,e1,←zwR,zwS,zwy,zvn (by omega)]
theorem RdX.at1{α:Type}{enc:α→List XV}{t:Nat}(he:∀a,(enc a).length=1){g:XH}{v:XV}{l:List α}(r:RdX g t 1 enc v l){k:Nat}(hk:k<l.length):∃p cs o,jQ g t 1 (k:Int) (.s v)=some p∧rdX g (.s p)=some (cs,o)∧(∀J,jQ (g++J) t 1 (k:Int) (.s v)=some p∧rdX (g++J) (.s p)=some (cs,o))∧cs[o]? =(enc l[k])[0]? :=by obtain⟨p,cs,o,h1,h2,h3,h4,h5,h6⟩:=r.atJ he (by decide) hk;exact⟨p,cs,o,h1,h2,h3,h6 0 (by decide)⟩
section
variable {g r:XH} {i j k:Nat} {x x2 y z:XO}
@[simp] theorem getS_len:(g.set i x++y::r)[g.length]? =some y:=by
 have:g.length=(g.set i x).length:=by simp
 rw[this,YI]
@[simp] theorem getS_add:(g.set i x++r)[g.length+k]? =r[k]? :=by
 have:g.length=(g.set i x).length:=by simp
 rw[this,zaF]
@[simp] theorem setS_at:(g.set i x++y::r).set g.length z=g.set i x++z::r:=by
 have:g.length=(g.set i x).length:=by simp
 rw[this,zgA]
@[simp] theorem setS_add:(g.set i x++r).set (g.length+k) z=g.set i x++r.set k z:=by
 have:g.length=(g.set i x).length:=by simp
 rw[this,zd3]
@[simp] theorem zur:((g.set i x).set j x2++y::r)[g.length]? =some y:=by
 have:g.length=((g.set i x).set j x2).length:=by simp
 rw[this,YI]
@[simp] theorem zuq:((g.set i x).set j x2++r)[g.length+k]? =r[k]? :=by
 have:g.length=((g.set i x).set j x2).length:=by simp
 rw[this,zaF]
@[simp] theorem setS2_at:((g.set i x).set j x2++y::r).set g.length z=(g.set i x).set j x2++z::r:=by
 have:g.length=((g.set i x).set j x2).length:=by simp
 rw[this,zgA]
@[simp] theorem zut:((g.set i x).set j x2++r).set (g.length+k) z=(g.set i x).set j x2++r.set k z:=by
 have:g.length=((g.set i x).set j x2).length:=by simp
 rw[this,zd3]
end
abbrev wr(n:Int):Int:=IntKind.i64.wrap n
theorem Ze.app{T R:Nat}{g J:XH}{i k:Nat}{t:List Rw}(h:Ze T R g i k t):Ze T R (g++J) i k t:=by obtain⟨w,h1,h2⟩:=h;exact⟨w,by rw[zq (ze h1)];exact h1,by rw[zq (ze h2)];exact h2⟩
theorem ztq(a b:Int):(if b<a then b else a)=min a b:=by split<;>omega
theorem zto(a b:Int):(if a<b then b else a)=max a b:=by split<;>omega
theorem zb7(t:List Rw)(j:ByteArray)(p:Int):∀(l:List Int) (y:Int) (acc:List Int),zV t j p l=some acc→zV t j p (l++[y])=(jo t j (max y (p.tdiv 4)) p).map fun r=>acc++[r]
 |[],y,acc,h=>by
  simp only[zV,zuu] at h;subst h;simp only[zwb,zV];cases jo t j (max y (p.tdiv 4)) p<;>rfl
 |x::l,y,acc,h=>by
  simp only[zV,zvX] at h⊢;cases hx:jo t j (max x (p.tdiv 4)) p with
  |none=>rw[hx] at h;cases h
  |some r=>
   rw[hx] at h;simp only at h⊢;obtain⟨acc',h1,rfl⟩:=zuy.1 h;rw[zb7 t j p l y acc' h1];cases jo t j (max y (p.tdiv 4)) p<;>rfl
theorem zb6(t:List Rw)(j:ByteArray)(p:Int):∀(l m:List Int),zV t j p l=none→zV t j p (l++m)=none
 |[],m,h=>by simp[zV] at h
 |x::l,m,h=>by
  simp only[zV,zvX] at h⊢;cases hx:jo t j (max x (p.tdiv 4)) p with
  |none=>rfl
  |some r=>
   rw[hx] at h;simp only[Option.map_eq_none_iff] at h⊢;exact zb6 t j p l m h
theorem zhH{g:XH}{i k:Nat}{t:List Rw}(ht:Ze 145 140 g i k t)(hl:t.length≤1000)(j:ByteArray)(p:Int):
 Cl C (fun _=>False) 92 [.s (.ptr i 0 0),fs j,fi p] g fun u g'=>u= .tup [fi (yU t j p).1,fi (yU t j p).2]∧g'=g:=by
 refine Cl.ip rfl (zuv rfl) fun Ψ hΨ=> ?_;simp;refine zb.pure (Zd ..) ?_;simp;refine zc (fun hc=> ?_) (fun hc=> ?_)
 ·have hy:Yp p=p.tdiv 4:=by unfold Yp;rw[zuF hc]
  have hb:=ziu p;rw[hy] at hb;simp;refine zb.pure (zk1 ..) ?_;rw[hy];simp[zd (n:=p.tdiv 4+1) (by omega) (by omega),ztq];refine zb.go0 (zgG ht hl j (min (p.tdiv 4+1) 99) p) ?_;rcases hr:jo t j (min (p.tdiv 4+1) 99) p with _|r
  ·simp;exact Gh.here (hΨ _ _ ⟨by simp[yU,hc,hr],rfl⟩)
  ·simp;exact Gh.here (hΨ _ _ ⟨by simp[yU,hc,hr],rfl⟩)
 ·simp;exact Gh.here (hΨ _ _ ⟨by simp[yU,hc],rfl⟩)
def Zq(t:List Rw)(j:ByteArray)(p:Int)(ys:List Int):XF:=if zn p then match zV t j p ys with
 |some l=> .tup [.s (Yv l),fi 0]
 |none=> .tup [.s (.v .nils),fi 7]
 else .tup [.s (.v .nils),fi 1]
theorem zof{g:XH}{i k:Nat}{t:List Rw}(ht:Ze 145 140 g i k t)(hl:t.length≤1000)(j:ByteArray)(p:Int){v:XV}{l:List Bu}(hr:RdX g 261 3 z8 v l)(hb:l.length≤1000):
 Cl C (fun _=>False) 272 [.s (.ptr i 0 0),fs j,.s v,fi p] g fun u g'=>u=Zq t j p (l.map (·.y))∧g'=g:=by
 refine Cl.ip rfl (zuv rfl) fun Ψ hΨ=> ?_;simp;refine zb.pure (Zd ..) ?_;simp;refine zc (fun hc=> ?_) (fun hc=> ?_)
 ·have hy:Yp p=p.tdiv 4:=by unfold Yp;rw[zuF hc]
  have hyb:=ziu p;rw[hy] at hyb;simp[hr.len];refine Lp.ghost 3 1 (fr2:=[(0,some (.s (.ptr i 0 0))),(1,some (fs j)),(3,some (fi p)),(10,some (.s (.sl g.length 0 0 0))),(18,some (.s v)),(19,some (fi l.length)),(20,some (fi 0))]) (by simp[GhF]) ?_;refine Lp.genU (σ:=Nat×List Int) l.length (fun k s=>[(10,.s (.sl g.length s.1 0 s.2.length)),(20,fi k)]) (fun k s=>g++[.own s.1 3 1 (s.2.flatMap zT)]) (fun k s=>s.2.length=k∧zV t j p ((l.map (·.y)).take k)=some s.2) (0,[]) (by decide) rfl (by simp) (by simp) (by simp[zV]) ?_ ?_
  ·rintro q hq ⟨w,acc⟩ ⟨hlen,hacc⟩ hlt N hN;simp only at *;have hr2:RdX (g++[XO.own w 3 1 (acc.flatMap zT)]) 261 3 z8 v l:=hr.app;obtain⟨p1,cs,o,b1,b2,b3,b4,_⟩:=hr2.at zP (by decide) hq;simp[l272_0,hq,b1,b2,b3,b4,z8];refine zex (fun _=>False) (by simp) ?_;simp;refine zb.pure (zk1 ..) ?_;rw[hy];simp[zto];refine zb.go0 (zgG ht.app hl j (max l[q].y (p.tdiv 4)) p) ?_;have e1:(l.map (·.y)).take (q+1)=(l.map (·.y)).take q++[l[q].y]:=by rw[zuT (by simpa using hq)];simp
   have e2:=zb7 t j p _ l[q].y acc hacc;rw[←e1] at e2;rcases hr:jo t j (max l[q].y (p.tdiv 4)) p with _|r
   ·rw[hr] at e2;have e3:=zb6 t j p _ ((l.map (·.y)).drop (q+1)) e2;rw[zu7] at e3;simp;exact Gh.pure (.t2 (.s (.lt (by simp))) .i) (hΨ _ _ ⟨by simp[Zq,hc,e3],rfl⟩)
   ·rw[hr] at e2;have hcl:(acc.flatMap zT).length=acc.length:=by rw[zf zI];omega
    simp[hr,hcl,show(acc.length+1)*8≤140737488355328 by omega,yE hq (by omega)];exact jf (fun fr g'=>hN (w+1,acc++[r]) fr g' ⟨by simp[hlen],e2⟩) (by simp) (by simp) (by simpa using hlt) (by simp[lvO])
  ·rintro⟨w,acc⟩ ⟨hlen,hacc⟩;simp only at *;rw[zvq (by simp)] at hacc;simp[l272_0];exact Gh.pure (.t2 (.s (.fl (t:=3) zI (fun m a=>by simp) (zuB _) (by simp))) .i) (hΨ _ _ ⟨by simp[Zq,hc,hacc],rfl⟩)
 ·simp;exact Gh.here (hΨ _ _ ⟨by simp[Zq,hc],rfl⟩)
theorem zd9:∀(l:List Bu) (s:List Int) (k:Nat) (h1:k<l.length) (h2:k<s.length),jx (l.take (k+1)) (s.take (k+1))=jx (l.take k) (s.take k)-zg l[k].n s[k]
 |[],_,k,h1,_=>by simp at h1
 |_::_,[],k,_,h2=>by simp at h2
 |b::l,r::s,0,_,_=>by simp[jx]
 |b::l,r::s,k+1,h1,h2=>by simp only[zuU,jx,zv5];rw[zd9 l s k (by simpa using h1) (by simpa using h2)];omega
theorem zik:∀(l:List Bu) (s:List Int),-(4000000000001*(l.length:Int))≤jx l s∧jx l s≤4000000000001*(l.length:Int)
 |[],_=>by simp[jx]
 |b::l,[]=>by simp[jx];omega
 |b::l,r::s=>by have h1:=zik l s;have h2:=zD b.n r;simp only[jx,zvk,zwk,zwV];omega
def zdL:List Bu→List Int→Bool
 |b::l,r::s=>zm r&&za b.n&&zdL l s
 |_,_=>true
theorem zkD:∀(l:List Bu) (s:List Int) (k:Nat) (h1:k<l.length) (h2:k<s.length),zdL l s=true→zm s[k]=true∧za l[k].n=true
 |[],_,k,h1,_,_=>by simp at h1
 |_::_,[],k,_,h2,_=>by simp at h2
 |b::l,r::s,0,_,_,h=>by simp[zdL] at h;exact h.1
 |b::l,r::s,k+1,h1,h2,h=>by simp only[zdL,zuE] at h;exact zkD l s k (by simpa using h1) (by simpa using h2) h.2
theorem zdM:∀(l:List Bu) (s:List Int),(∀(k:Nat) (h1:k<l.length) (h2:k<s.length),zm s[k]=true∧za l[k].n=true)→zdL l s=true
 |[],_,_=>rfl
 |_::_,[],_=>rfl
 |b::l,r::s,h=>by have h0:=h 0 (by simp) (by simp);simp only[zdL,zuE];exact⟨h0,zdM l s fun k h1 h2=>h (k+1) (by simpa using h1) (by simpa using h2)⟩
def jL(l:List Bu)(s:List Int):Int×Int:=if s.length≠l.length then(0,1) else if zdL l s then(if za (jx l s) then(jx l s,0) else(0,6)) else(0,1)
theorem tempX{g:XH}{v u:XV}{l:List Bu}{s:List Int}(hr:RdX g 261 3 z8 v l)(hs:RdX g 3 1 zT u s)(hl:l.length≤1000):
 Cl C (fun _=>False) 284 [.s v,.s u] g fun u g'=>u= .tup [fi (jL l s).1,fi (jL l s).2]∧g'=g:=by
 refine Cl.ip rfl (zuv rfl) fun Ψ hΨ=> ?_;simp[hr.len,hs.len];refine zc (fun hc=> ?_) (fun hc=> ?_)
 ·simp at hc;replace hc:¬s.length=l.length:=by omega
  simp;exact Gh.here (hΨ _ _ ⟨by simp[jL,hc],rfl⟩)
 simp at hc;replace hc:s.length=l.length:=by omega
 simp[hr.len,hs.len];have bad:∀J,zdL l s=false→Gh (fun _=>False) g Ψ (.tup [fi 0,fi 1]) (g++J):=fun J h=>Gh.pure (.t2 .i .i) (hΨ _ _ ⟨by simp[jL,hc,h],rfl⟩);refine Lp.genU (σ:=Unit) l.length (fun k _=>[(6,fi (jx (l.take k) (s.take k))),(18,fi k)]) (fun _ _=>g) (fun k _=>∀(j:Nat),j<k→∀(h1:j<l.length) (h2:j<s.length),zm s[j]=true∧za l[j].n=true) () (by decide) rfl (by simp[jx]) rfl (by omega) ?_ ?_
 ·rintro q hq ⟨⟩ hP hlt N hN;obtain⟨p1,cs,o,b1,b2,b3,b4,b5,_⟩:=hr.atJ zP (by decide) hq;obtain⟨p2,cs2,o2,c1,c2,c3,c4⟩:=hs.at1 zI (k:=q) (by omega);have e1:=zd9 l s q hq (by omega);have hb:=zik (l.take q) (s.take q);have hb2:=zD l[q].n s[q];rw[zuR,zvn (by omega)] at hb;have hw:IntKind.i64.wrap (jx (l.take q) (s.take q)-zg l[q].n s[q])=jx (l.take (q+1)) (s.take (q+1)):=by rw[e1];exact zd (by omega) (by omega)
  have hno:∀b:Bool,(zm s[q]&&za l[q].n)=false→zdL l s=false:=fun _ h=>by
   cases h2:zdL l s with
   |false=>rfl
   |true=>
    have:=zkD l s q hq (by omega) h2;rw[this.1,this.2] at h;cases h
  simp[l284_0,hq,b1,b2,b3,b4,b5,c1,c2,c3,c4,z8,zT];refine zb.pure (q8 ..) ?_;simp;refine zc (fun h1=> ?_) (fun h1=> ?_)
  ·simp;refine zb.pure (ya ..) ?_;simp;refine zc (fun h2=> ?_) (fun h2=> ?_)
   ·simp[c1,c2,c3,c4,zT];refine zb.pure (ofX ..) ?_;simp[hw,yE hq (by omega)]
    exact J6 () hN (fun j hj a b=>if e:j<q then hP j e a b else by obtain rfl:j=q:=by omega
                                                                   exact⟨h1,h2⟩) (by simp) (by simpa using hlt)
   ·simp;exact bad _ (hno true (by simp[h2]))
  ·simp;exact bad _ (hno true (by simp[h1]))
 ·rintro⟨⟩ hP;have hok:zdL l s=true:=zdM l s fun k h1 h2=>hP k h1 h1 h2;rw[zu3,zvq (by omega)];simp[l284_0];refine zb.pure (ya ..) ?_;simp;refine zc (fun h1=> ?_) (fun h1=> ?_)
  ·simp;exact Gh.here (hΨ _ _ ⟨by simp[jL,hc,hok,h1],rfl⟩)
  ·simp;exact Gh.here (hΨ _ _ ⟨by simp[jL,hc,hok,h1],rfl⟩)
def jF(w:Wa):List XV:=[xi w.c,xi w.y,xi w.o,xi w.m,xi w.z]
theorem yl(b:Wa):(jF b).length=5:=rfl
theorem zfP(b:Wa)(m:Nat):zu m (jF b):=by simp[jF]
@[simp] theorem encW_lvs(m:Nat)(l:List Wa):zu m (l.flatMap jF):=zQ (fun a=>zfP a m) l
def qz(c y:Int)(b:Wa):Bool:=b.c==c&&b.y==y
theorem keyWP(x:Wa)(c y:Int){g:XH}{a b:Nat}(ha:g[a]? =some (.own 0 3 1 [xi c]))(hb:g[b]? =some (.own 0 3 1 [xi y])):Cl C (fun _=>False) 346 [.agg (jF x),.s (.ptr a 0 0),.s (.ptr b 0 0)] g fun u g'=>u=fb (qz c y x)∧g'=g:=by
 have la:=ze ha;have lb:=ze hb;refine Cl.ip rfl (zuv rfl) fun Ψ hΨ=> ?_;simp[jF,ha,hb,la,lb]
 repeat' first|(refine zc (fun hc=> ?_) (fun hc=> ?_)<;>try simp[jF,ha,hb,la,lb])
 all_goals(refine Gh.pure (.s (.lt (by simp))) (hΨ _ _ ⟨?_,rfl⟩);simp at *;simp[qz, *])
def zhG(c y:Int):Wa:=⟨c,y,0,0,0⟩
def ZR(c y:Int)(f:Wa→Wa):List Wa→List Wa
 |[]=>[f (zhG c y)]
 |x::l=>if qz c y x then f x::l else x::ZR c y f l
theorem Y1(c y:Int)(f:Wa→Wa):∀(l:List Wa) (k:Nat),(ym (qz c y) k l= -1∧l.any (qz c y)=false∧ZR c y f l=l++[f (zhG c y)])∨∃i,ym (qz c y) k l=((k+i:Nat):Int)∧l.any (qz c y)=true∧∃h:i<l.length,ZR c y f l=l.set i (f l[i])
 |[],k=> .inl ⟨rfl,rfl,rfl⟩
 |x::l,k=>by
  unfold ym ZR;cases hk:qz c y x with
  |true=>exact .inr ⟨0,by simp,by simp[hk],by simp,by simp⟩
  |false=>
   rcases Y1 c y f l (k+1) with⟨h1,h2,h3⟩|⟨i,h1,h2,h3,h4⟩
   ·exact .inl ⟨by simpa using h1,by simp[hk,h2],by simp[h3]⟩
   ·exact .inr ⟨i+1,by simp only[zu0,if_false];rw[h1];congr 1;omega,by simp[hk,h2],by simpa using h3,by simp[h4]⟩
theorem zhZ(c y:Int)(f:Wa→Wa)(l:List Wa):(ZR c y f l).length≤l.length+1:=by rcases Y1 c y f l 0 with⟨_,_,h⟩|⟨i,_,_,_,h⟩<;>rw[h]<;>simp
theorem zol{g:XH}{k w:Nat}{l:List Wa}(hk:g[k]? =some (.own w 244 5 (l.flatMap jF)))(hl:l.length≤1000)(c y:Int):Cl C (fun x=>x=k) 314 [.s (.sl k w 0 l.length),fi c,fi y] g fun u g'=>∃(w':Nat) (l':List Wa) (i:Nat),u= .tup [.s (.sl k w' 0 l'.length),fi (i:Nat)]∧g'=g.set k (.own w' 244 5 (l'.flatMap jF))∧l'.length≤l.length+1∧∃h:i<l'.length,∀f,ZR c y f l=l'.set i (f l'[i]):=by
 have lk:=ze hk;have hlen:(l.flatMap jF).length=l.length*5:=zf yl l;refine Cl.ip rfl (zuv rfl) fun Ψ hΨ=> ?_;simp[hk,lk];refine zb.go0 (Ys (f:=345) rfl yl (by decide) (RdX.sl yl hk).app (by omega) (.inr ⟨g.length+2,346,[],[.s (.ptr g.length 0 0),.s (.ptr (g.length+1) 0 0)],rfl,by simp,fun x _=>keyWP x c y (by simp) (by simp)⟩)) ?_;have hp:=fun f=>Y1 c y f l 0;rcases Y1 c y id l 0 with⟨e1,e2,_⟩|⟨i,e1,e2,hi,_⟩
 ·have hput:∀f,ZR c y f l=(l++[zhG c y]).set l.length (f (zhG c y)):=fun f=>by
   rcases hp f with⟨_,_,h⟩|⟨_,_,h,_⟩
   ·rw[h,zvK _ _ (zuB _),zvy];rfl
   ·rw[e2] at h;cases h
  simp[e1,hk,lk,hlen,show(l.length+1)*40≤140737488355328 by omega];refine qS (Upd.refl.set (S:=fun x=>x=k) rfl (by simp[lvO])) (by simp[lk]) (hΨ _ _ ⟨w+1,l++[zhG c y],l.length,by simp,by simp[zhG,jF],by simp,by simp,fun f=> ?_⟩);rw[hput f];simp
 ·have hput:∀f,ZR c y f l=l.set i (f l[i]):=fun f=>by
   rcases hp f with⟨h,_⟩|⟨j,h,_,h2,h3⟩
   ·rw[e1] at h;simp at h
   ·rw[e1] at h;obtain rfl:i=j:=by simp at h;omega
    exact h3
  rw[zve] at e1;simp[e1,hk,lk];refine Gh.pure (.t2 (.s (.lt (by simp[lk]))) .i) (hΨ _ _ ⟨w,l,i,rfl,(y0 hk).symm,zwZ _,hi,hput⟩)
def cW(b:Wa):List SV:=[.int .i64 b.c,.int .i64 b.y,.int .i64 b.o,.int .i64 b.m,.int .i64 b.z]
theorem zj7(l:List Wa):(l.flatMap cW).map XV.v=l.flatMap jF:=by rw[zxb];rfl
def ltW(a b:Wa):Bool:=decide (a.c<b.c)||(a.c==b.c&&decide (a.y<b.y))
theorem ltK_W(a b:Wa):ltK [0,1] (cW a) (cW b)=ltW a b:=by simp[ltK,cW,ltW]
theorem zjE{g:XH}{k w:Nat}{l:List Wa}(hk:g[k]? =some (.own w 244 5 (l.flatMap jF)))(hd:jy ltW l=true)(hlm:l.length<4611686018427387904):Cl C (fun x=>x=k) 315 [.s (.sl k w 0 l.length)] g fun u g'=>u= .s (.sl k w 0 l.length)∧g'=g.set k (.own w 244 5 ((zt ltW l).flatMap jF)):=by have lk:=ze hk;refine Cl.ip rfl (zuv rfl) fun Ψ hΨ=> ?_;simp;refine zb.go (za2 (o:=0) (enc:=cW) (lta:=ltW) rfl (fun _=>rfl) (by decide) (fun a v hv=>by simp[cW] at hv;rcases hv with rfl|rfl|rfl|rfl|rfl<;>rfl) (fun _=>rfl) ltK_W (l:=l) (cs:=l.flatMap jF) (w:=w) (k:=k) hk (by rw[zve,zf yl];exact zuB _) (by rw[zvP,zu2,←zf yl,zu3,zj7]) hd hlm) (fun x hx e=> .inr e) ?_;rintro u g' ⟨rfl,rfl⟩;rw[zj7,zvP,ZU (by rw[zf yl,zf yl,zK])];simp;exact Gh.here (hΨ _ _ ⟨rfl,rfl⟩)
def qp(l:List Wa)(b:Bu):List Wa:=ZR b.c b.y (fun w=>{w with o:=b.n}) l
def qG(l:List Wa)(b:Bu):List Wa:=ZR b.c b.y (fun w=>{w with z:=b.n}) l
def Js(w:Wa):Wa:={w with m:=wr (w.z-w.o)}
def zw(o c:List Bu):List Wa:=zt ltW ((c.foldl qG (o.foldl qp [])).map Js)
def zcX(a b:Wa):Prop:=¬(a.c=b.c∧a.y=b.y)
def Jn(l:List Wa):Prop:=l.Pairwise zcX
theorem zc2:∀{l:List Wa},Jn l→jy ltW l=true
 |[],_=>rfl
 |x::l,h=>by obtain⟨h1,h2⟩:=zu1.1 h;simp only[jy,zuE,zuV];refine⟨fun y hy=> ?_,zc2 h2⟩;have:=h1 y hy;unfold zcX at this;simp[ltW];omega
theorem zh0{c y:Int}{f:Wa→Wa}(hf:∀w,(f w).c=w.c∧(f w).y=w.y):∀{l:List Wa} {x:Wa},x∈ZR c y f l→(x.c=c∧x.y=y)∨∃z∈l,x.c=z.c∧x.y=z.y
 |[],x,h=>by
  simp[ZR] at h;subst h;exact .inl (hf _)
 |z::l,x,h=>by
  unfold ZR at h;split at h
  ·rcases zuO.1 h with rfl|h
   ·exact .inr ⟨z,by simp,hf z⟩
   ·exact .inr ⟨x,by simp[h],rfl,rfl⟩
  ·rcases zuO.1 h with rfl|h
   ·exact .inr ⟨x,by simp,rfl,rfl⟩
   ·rcases zh0 hf h with h|⟨z',h1,h2⟩
    ·exact .inl h
    ·exact .inr ⟨z',by simp[h1],h2⟩
theorem QE{c y:Int}{f:Wa→Wa}(hf:∀w,(f w).c=w.c∧(f w).y=w.y):∀{l:List Wa},Jn l→Jn (ZR c y f l)
 |[],_=>by simp[ZR,Jn]
 |z::l,h=>by
  obtain⟨h1,h2⟩:=zu1.1 h;unfold ZR;split
  ·refine zu1.2 ⟨fun a ha=> ?_,h2⟩;have:=h1 a ha;unfold zcX at this⊢;rw[(hf z).1,(hf z).2];exact this
  ·rename_i hk;refine zu1.2 ⟨fun a ha=> ?_,QE hf h2⟩;rcases zh0 hf ha with⟨e1,e2⟩|⟨z',hz,e1,e2⟩
   ·unfold zcX;rw[e1,e2];simp[qz] at hk;omega
   ·have:=h1 z' hz;unfold zcX at this⊢;rw[e1,e2];exact this
theorem Q8:∀(b:List Bu) (l:List Wa),Jn l→Jn (b.foldl qp l)
 |[],_,h=>h
 |x::b,l,h=>Q8 b (qp l x) (QE (f:=fun w=>{w with o:=x.n}) (fun _=>⟨rfl,rfl⟩) h)
theorem zdk:∀(b:List Bu) (l:List Wa),Jn l→Jn (b.foldl qG l)
 |[],_,h=>h
 |x::b,l,h=>zdk b (qG l x) (QE (f:=fun w=>{w with z:=x.n}) (fun _=>⟨rfl,rfl⟩) h)
theorem zaD(o c:List Bu):jy ltW ((c.foldl qG (o.foldl qp [])).map Js)=true:=by refine zc2 (zwK.2 ?_);exact(zdk c _ (Q8 o [] List.Pairwise.nil)).imp fun h=>h
theorem zbj{α β:Type}(f:β→α→β)(s:β)(l:List α){k:Nat}(hk:k<l.length):(l.take (k+1)).foldl f s=f ((l.take k).foldl f s) l[k]:=by rw[zuT hk,List.foldl_append];rfl
theorem znJ{α:Type}(f:α→α){l:List α}{k:Nat}(hk:k<l.length):((l.take k).map f++l.drop k).length=l.length∧(∀h,((l.take k).map f++l.drop k)[k]'h=l[k])∧(l.take (k+1)).map f++l.drop (k+1)=((l.take k).map f++l.drop k).set k (f l[k]):=by
 have hl:((l.take k).map f).length=k:=by simp;omega
 refine⟨by simp;omega,fun h=> ?_,?_⟩
 ·have e:((l.take k).map f++l.drop k)[k]? =l[k]? :=by rw[zuC (by omega),hl,zvy,zvE,zv1]
  rw[zuJ h,zuJ hk] at e;exact zuw e
 ·rw[zuT hk,zvg,zvK _ _ (by omega),hl,zvy,zvc hk,zuX];rfl
theorem YF:∀(b:List Bu) (l:List Wa),(b.foldl qp l).length≤l.length+b.length
 |[],l=>by simp
 |x::b,l=>by have h1:=YF b (qp l x);have h2:=zhZ x.c x.y (fun w=>{w with o:=x.n}) l;simp only[zwp,zvk];unfold qp at h1⊢;omega
theorem YG:∀(b:List Bu) (l:List Wa),(b.foldl qG l).length≤l.length+b.length
 |[],l=>by simp
 |x::b,l=>by have h1:=YG b (qG l x);have h2:=zhZ x.c x.y (fun w=>{w with z:=x.n}) l;simp only[zwp,zvk];unfold qG at h1⊢;omega
abbrev zhy(l:List Wa):XV:= .lst 244 5 l.length (l.flatMap jF)
theorem Qe{g:XH}{u v:XV}{o c:List Bu}(hu:RdX g 261 3 z8 u o)(hv:RdX g 261 3 z8 v c)(ho:o.length≤400)(hc:c.length≤400):
 Cl C (fun _=>False) 275 [.s u,.s v] g fun u g'=>u= .s (zhy (zw o c))∧g'=g:=by
 refine Cl.ip rfl (zuv rfl) fun Ψ hΨ=> ?_;simp[hu.len];refine Lp.genG 244 5 (σ:=Nat×List Wa) o.length (fun k s=>[(5,.s (.sl g.length s.1 0 s.2.length)),(14,fi k)]) (fun k s=>g++[.own s.1 244 5 (s.2.flatMap jF)]) (fun k s=>s.2=(o.take k).foldl qp []) (0,[]) (by decide) rfl (by simp[GhF]) (by simp) (by simp) ?_ ?_
 ·rintro q hq ⟨w,L⟩ hP hlt N hN;simp only at *;subst hP;have hLl:=YF (o.take q) [];rw[zuR,zvY] at hLl;have hs:=zbj qp [] o hq;generalize(o.take q).foldl qp []=L at *;obtain⟨p,cs,o',b1,b2,b3,b4,b5,_⟩:=hu.atJ zP (by decide) hq;simp[l275_0,hq,b3,b4,b5,z8];refine zb.go (zol (k:=g.length) (w:=w) (l:=L) (by simp) (by omega) o[q].c o[q].y) (fun x hx e=> .inl (by omega)) ?_;rintro u g' ⟨w',l',i,rfl,rfl,hl',hi,hput⟩;have e1:=hput fun w=>{w with o:=o[q].n}
  have h1:=jP yl (l:=l') (k:=i) hi (c:=2) (by decide) (v:=xi o[q].n) (x:={l'[i] with o:=o[q].n}) rfl [];simp only[zu6] at h1;have h2:=zf yl l';have h3:i*5+2+1≤(l'.flatMap jF).length:=by omega
  have h4:¬l'.flatMap jF=[]:=fun e=>by rw[e] at h2;simp at h2;omega
  rw[←e1] at h1;have e2:(ZR o[q].c o[q].y (fun w=>{w with o:=o[q].n}) L).length=l'.length:=by rw[e1,zvf]
  simp[hi,h1,h3,h4,yE hq (by omega)];exact jf (fun fr g'=>hN (w',qp L o[q]) fr g' hs.symm) rfl (by simp[qp,e2]) (by simpa using hlt) (by simp[lvO])
 ·rintro⟨w,L⟩ hP;simp only[zu3] at *;subst hP;have hLl:=YF o [];rw[zvY] at hLl;have hdist:=zaD o c;have hfw:zw o c=zt ltW ((c.foldl qG (o.foldl qp [])).map Js):=rfl;generalize o.foldl qp []=L0 at *;have hvl:∀J,Y4 (g++J) (.s v)=some c.length:=fun J=>hv.app.len;simp[l275_0,hvl];refine Lp.genU (σ:=Nat×List Wa) c.length (fun k s=>[(5,.s (.sl g.length s.1 0 s.2.length)),(36,fi k)]) (fun k s=>g++[.own s.1 244 5 (s.2.flatMap jF)]) (fun k s=>s.2=(c.take k).foldl qG L0) (w,L0) (by decide) rfl (by simp) rfl (by simp) ?_ ?_
  ·rintro q hq ⟨w,L⟩ hP hlt N hN;simp only at *;subst hP;have hLl2:=YG (c.take q) L0;rw[zuR] at hLl2;have hs:=zbj qG L0 c hq;generalize(c.take q).foldl qG L0=L at *;obtain⟨p,cs,o',b1,b2,b3,b4,b5,_⟩:=hv.atJ zP (by decide) hq;simp[l275_1,hq,b3,b4,b5,z8];refine zb.go (zol (k:=g.length) (w:=w) (l:=L) (by simp) (by omega) c[q].c c[q].y) (fun x hx e=> .inl (by omega)) ?_;rintro u g' ⟨w',l',i,rfl,rfl,hl',hi,hput⟩;have e1:=hput fun w=>{w with z:=c[q].n}
   have h1:=jP yl (l:=l') (k:=i) hi (c:=4) (by decide) (v:=xi c[q].n) (x:={l'[i] with z:=c[q].n}) rfl [];simp only[zu6] at h1;have h2:=zf yl l';have h3:i*5+4+1≤(l'.flatMap jF).length:=by omega
   have h4:¬l'.flatMap jF=[]:=fun e=>by rw[e] at h2;simp at h2;omega
   rw[←e1] at h1;have e2:(ZR c[q].c c[q].y (fun w=>{w with z:=c[q].n}) L).length=l'.length:=by rw[e1,zvf]
   simp[hi,h1,h3,h4,yE hq (by omega)];exact jf (fun fr g'=>hN (w',qG L c[q]) fr g' hs.symm) rfl (by simp[qG,e2]) (by simpa using hlt) (by simp[lvO])
  ·rintro⟨w,L⟩ hP;simp only[zu3] at *;subst hP;have hLl2:=YG c L0;generalize c.foldl qG L0=L at *;simp[l275_1];refine Lp.genU (σ:=Unit) L.length (fun k _=>[(58,fi k)]) (fun k _=>g++[.own w 244 5 (((L.take k).map Js++L.drop k).flatMap jF)]) (fun _ _=>True) () (by decide) rfl (by simp) (by simp) trivial ?_ ?_
   ·rintro q hq ⟨⟩ _ hlt N hN;obtain⟨m1,m2,m3⟩:=znJ Js hq;rw[m3] at hN;generalize(L.take q).map Js++L.drop q=M at *;have hqM:q<M.length:=by omega
    have m2:=m2 hqM;obtain⟨a1,a2,a3⟩:=atX yl (l:=M) (k:=q) hqM;have a4:=a3 4 (by decide);have a5:=a3 2 (by decide);have h1:=jP yl (l:=M) (k:=q) hqM (c:=3) (by decide) (v:=xi (wr (L[q].z-L[q].o))) (x:=Js L[q]) (by rw[m2];rfl) [];simp only[zu6] at h1;rw[m2] at a4 a5;simp[jF] at a4 a5;have h3:q*5+3+1≤(M.flatMap jF).length:=by omega
    have h4:¬M.flatMap jF=[]:=fun e=>by rw[e] at a1;simp at a1
    simp[l275_2,hq,a4,a5,h1,h3,h4,yE hq (by omega)];exact jf (fun fr g'=>hN () fr g' trivial) rfl (by simp) (by simp) (by simp[lvO])
   ·rintro⟨⟩ _;rw[zu3,zxN,zu6];simp[l275_2];have hS:=zjE (g:=g++[.own w 244 5 ((L.map Js).flatMap jF)]) (k:=g.length) (w:=w) (l:=L.map Js) (by simp) hdist (by first|omega|(simp;omega));rw[zuY] at hS;refine zb.go hS (fun x hx e=> .inl (by omega)) ?_;rintro u g' ⟨rfl,rfl⟩;rw[←hfw];have hfl:(zw o c).length=L.length:=by rw[hfw,zK,zuY]
    rw[←hfl];simp;exact Gh.pure (.s (.fl (t:=244) yl (fun m a=>zfP a m) (zuB _) (by simp))) (hΨ _ _ ⟨rfl,rfl⟩)
theorem zb3:∀(l:List Wa) (s:List Int) (k:Nat) (h1:k<l.length) (h2:k<s.length),yG (l.take (k+1)) (s.take (k+1))=yG (l.take k) (s.take k)+(zg l[k].z s[k]-zg l[k].o s[k])
 |[],_,k,h1,_=>by simp at h1
 |_::_,[],k,_,h2=>by simp at h2
 |b::l,r::s,0,_,_=>by simp[yG]
 |b::l,r::s,k+1,h1,h2=>by simp only[zuU,yG,zv5];rw[zb3 l s k (by simpa using h1) (by simpa using h2)];omega
theorem zeQ:∀(l:List Wa) (s:List Int),-(8000000000002*(l.length:Int))≤yG l s∧yG l s≤8000000000002*(l.length:Int)
 |[],_=>by simp[yG]
 |b::l,[]=>by simp[yG];omega
 |b::l,r::s=>by have h1:=zeQ l s;have h2:=zD b.z r;have h3:=zD b.o r;simp only[yG,zvk,zwk,zwV];omega
theorem zb8:∀(l:List Wa) (s t:List Int) (k:Nat) (h1:k<l.length) (h2:k<s.length) (h3:k<t.length),yD (l.take (k+1)) (s.take (k+1)) (t.take (k+1))=yD (l.take k) (s.take k) (t.take k)+(zg l[k].o t[k]-zg l[k].o s[k])
 |[],_,_,k,h1,_,_=>by simp at h1
 |_::_,[],_,k,_,h2,_=>by simp at h2
 |_::_,_::_,[],k,_,_,h2=>by simp at h2
 |b::l,r::s,u::t,0,_,_,_=>by simp[yD]
 |b::l,r::s,u::t,k+1,h1,h2,h3=>by simp only[zuU,yD,zv5];rw[zb8 l s t k (by simpa using h1) (by simpa using h2) (by simpa using h3)];omega
theorem ze9:∀(l:List Wa) (s t:List Int),-(8000000000002*(l.length:Int))≤yD l s t∧yD l s t≤8000000000002*(l.length:Int)
 |[],_,_=>by simp[yD]
 |b::l,[],_=>by simp[yD];omega
 |b::l,_::_,[]=>by simp[yD];omega
 |b::l,r::s,u::t=>by have h1:=ze9 l s t;have h2:=zD b.o u;have h3:=zD b.o r;simp only[yD,zvk,zwk,zwV];omega
def okCh(l:List Wa)(s t:List Int):Prop:=∀(k:Nat) (h1:k<l.length) (h2:k<s.length) (h3:k<t.length),zm s[k]=true∧zm t[k]=true∧za l[k].o=true∧za l[k].z=true
open Classical in
noncomputable def JL(l:List Wa)(s t:List Int):Int×Int×Int:=if s.length≠l.length∨t.length≠l.length then(0,0,1) else if okCh l s t then(if za (yG l t)=true∧za (yD l s t)=true then(yG l t,yD l s t,0) else(0,0,6)) else(0,0,1)
theorem zq4{g:XH}{u v x y:XV}{o c:List Bu}{s t:List Int}(hu:RdX g 261 3 z8 u o)(hv:RdX g 261 3 z8 v c)(hx:RdX g 3 1 zT x s)(hy:RdX g 3 1 zT y t)(ho:o.length≤400)(hc:c.length≤400):
 Cl C (fun _=>False) 289 [.s u,.s v,.s x,.s y] g fun u g'=>u= .tup [.agg [xi (JL (zw o c) s t).1,xi (JL (zw o c) s t).2.1],fi (JL (zw o c) s t).2.2]∧g'=g:=by
 refine Cl.ip rfl (zuv rfl) fun Ψ hΨ=> ?_;simp;refine zb.go0 (Qe hu.app hv.app ho hc) ?_;have hfl:(zw o c).length≤800:=by have h1:=YF o [];have h2:=YG c (o.foldl qp []);simp only[zvY] at h1;unfold zw;rw[zK,zuY];omega
 generalize zw o c=l at *;have hxl:∀J,Y4 (g++J) (.s x)=some s.length:=fun J=>hx.app.len;have hyl:∀J,Y4 (g++J) (.s y)=some t.length:=fun J=>hy.app.len;have bad:∀(n:Int) J,JL l s t=(0,0,n)→Gh (fun _=>False) g Ψ (.tup [.agg [xi 0,xi 0],fi n]) (g++J):=fun n J h=>Gh.pure (.t2 (.agg (.lts (by simp))) .i) (hΨ _ _ ⟨by rw[h],rfl⟩);simp[hxl,hyl];refine zc (fun h1=> ?_) (fun h1=> ?_)
 ·simp at h1⊢;exact bad 1 _ (by unfold JL;rw[zuF (.inl (by omega))])
 simp[hxl,hyl];refine zc (fun h2=> ?_) (fun h2=> ?_)
 ·simp at h2⊢;exact bad 1 _ (by unfold JL;rw[zuF (.inr (by omega))])
 simp at h1 h2;replace h1:s.length=l.length:=by omega
 replace h2:t.length=l.length:=by omega
 simp;refine Lp.genU (σ:=Unit) l.length (fun k _=>[(39,fi k)]) (fun k _=>g++[.own 0 82 2 [xi 0,xi 0],.own 0 82 2 [xi (yG (l.take k) (t.take k)),xi (yD (l.take k) (s.take k) (t.take k))]]) (fun k _=>∀(j:Nat),j<k→∀(h1:j<l.length) (h2:j<s.length) (h3:j<t.length),zm s[j]=true∧zm t[j]=true∧za l[j].o=true∧za l[j].z=true) () (by decide) rfl (by simp) (by simp[yG,yD]) (by omega) ?_ ?_
 ·rintro q hq ⟨⟩ hP hlt N hN;obtain⟨p1,cs1,o1,_,_,c3,c4⟩:=hx.at1 zI (k:=q) (by omega);obtain⟨p2,cs2,o2,_,_,d3,d4⟩:=hy.at1 zI (k:=q) (by omega);obtain⟨a1,a2,a3⟩:=atX yl hq;have e1:=zb3 l t q hq (by omega);have e2:=zb8 l s t q hq (by omega) (by omega);have hb:=zeQ (l.take q) (t.take q);have hb2:=ze9 (l.take q) (s.take q) (t.take q);have hb3:=zD l[q].z t[q];have hb4:=zD l[q].o t[q];have hb5:=zD l[q].o s[q];rw[zuR,zvn (by omega)] at hb hb2;have w1:IntKind.i64.wrap (yG (l.take q) (t.take q)+zg l[q].z t[q])=yG (l.take q) (t.take q)+zg l[q].z t[q]:=zd (by omega) (by omega);have w2:IntKind.i64.wrap (yG (l.take q) (t.take q)+zg l[q].z t[q]-zg l[q].o t[q])=yG (l.take (q+1)) (t.take (q+1)):=by rw[e1,zd (by omega) (by omega)];omega
  have w3:IntKind.i64.wrap (yD (l.take q) (s.take q) (t.take q)+zg l[q].o t[q])=yD (l.take q) (s.take q) (t.take q)+zg l[q].o t[q]:=zd (by omega) (by omega);have w4:IntKind.i64.wrap (yD (l.take q) (s.take q) (t.take q)+zg l[q].o t[q]-zg l[q].o s[q])=yD (l.take (q+1)) (s.take (q+1)) (t.take (q+1)):=by rw[e2,zd (by omega) (by omega)];omega
  have hno:(zm s[q]&&zm t[q]&&za l[q].o&&za l[q].z)=false→JL l s t=(0,0,1):=fun h=>by unfold JL;rw[zuH (by omega),zuH];intro hk;have:=hk q hq (by omega) (by omega);simp[this] at h
  simp[l289_0,hq,a1,a2,jF,zT,c3,c4];refine zb.pure (q8 ..) ?_;simp;refine zc (fun k1=> ?_) (fun k1=> ?_)
  rotate_left
  ·simp;exact bad 1 _ (hno (by simp[k1]))
  simp[d3,d4,zT];refine zb.pure (q8 ..) ?_;simp;refine zc (fun k2=> ?_) (fun k2=> ?_)
  rotate_left
  ·simp;exact bad 1 _ (hno (by simp[k2]))
  simp;refine zb.pure (ya ..) ?_;simp;refine zc (fun k3=> ?_) (fun k3=> ?_)
  rotate_left
  ·simp;exact bad 1 _ (hno (by simp[k3]))
  simp;refine zb.pure (ya ..) ?_;simp;refine zc (fun k4=> ?_) (fun k4=> ?_)
  rotate_left
  ·simp;exact bad 1 _ (hno (by simp[k4]))
  simp[c3,c4,zT];refine zb.pure (ofX ..) ?_;simp[d3,d4,zT];refine zb.pure (ofX ..) ?_;simp[d3,d4,zT];refine zb.pure (ofX ..) ?_;simp[w1,w2,w3,w4,yE hq (by omega)];exact zjp (fun fr g'=>hN () fr g' (fun j hj a b d=>if e:j<q then hP j e a b d else by
   obtain rfl:j=q:=by omega
   exact⟨k1,k2,k3,k4⟩)) rfl rfl (by simp) (by simpa using hlt) (by simp[lvO]) (by simp[lvO])
 ·rintro⟨⟩ hP;have hok:okCh l s t:=fun k h1 h2 h3=>hP k h1 h1 h2 h3;rw[zu3,zvq (by omega),zvq (by omega)];have e0:JL l s t=if za (yG l t)=true∧za (yD l s t)=true then(yG l t,yD l s t,0) else(0,0,6):=by
   unfold JL;rw[zuH (by omega),zuF hok]
  simp[l289_0];refine zb.pure (ya ..) ?_;simp;refine zc (fun k1=> ?_) (fun k1=> ?_)
  rotate_left
  ·simp;exact bad 6 _ (by rw[e0,zuH (by simp[k1])])
  simp;refine zb.pure (ya ..) ?_;simp;refine zc (fun k2=> ?_) (fun k2=> ?_)
  rotate_left
  ·simp;exact bad 6 _ (by rw[e0,zuH (by simp[k2])])
  simp;rw[zuF ⟨k1,k2⟩] at e0;exact Gh.pure (.t2 (.agg (.lts (by simp))) .i) (hΨ _ _ ⟨by rw[e0],rfl⟩)
abbrev zi7(l:List Bu):XV:= .lst 261 3 l.length (l.flatMap z8)
def zR(i:Inp):List XV:=[xs i.j,xi i.p,xi i.book,xi i.perm,xi i.judge,xi i.cap,xi i.life,xi i.up]
def zi(b:Bal):List XV:=[xi b.p,zi7 b.b,Yv b.r,xi b.next,xi b.left,xi b.temp,xi b.loss,xi b.allow]
abbrev pC(i:Inp)(r:XV)(o c u m:List XV):List XV:=zR i++r::(o++(c++(u++m)))
def zF(p:Pro):List XV:=pC p.inp (xi p.rate) (zi p.op) (zi p.cl) (zG p.cur) [zhy p.rows,Yv p.now,xi p.tm,xi p.tr,xi p.lm,xi p.lr,xi p.am,xi p.deferred,xi p.total]
theorem len7{α:Type}{l:List α}(h:l.length=7):∃a b c d e f i,l=[a,b,c,d,e,f,i]:=by
 match l,h with
 |[a,b,c,d,e,f,i],_=>exact⟨_,_,_,_,_,_,_,rfl⟩
theorem len8{α:Type}{l:List α}(h:l.length=8):∃a b c d e f i j,l=[a,b,c,d,e,f,i,j]:=by
 match l,h with
 |[a,b,c,d,e,f,i,j],_=>exact⟨_,_,_,_,_,_,_,_,rfl⟩
theorem len9{α:Type}{l:List α}(h:l.length=9):∃a b c d e f i j k,l=[a,b,c,d,e,f,i,j,k]:=by
 match l,h with
 |[a,b,c,d,e,f,i,j,k],_=>exact⟨_,_,_,_,_,_,_,_,_,rfl⟩
theorem zfz{α:Type}{enc:α→List XV}{t z y f:Nat}{zs:List SV}(hf:C f=some (zlh t z y zs))(hzs:zs.length=z)(hnl:zs.all nlS=true)(he:∀a,(enc a).length=z)(hz:z≠0){g:XH}{v:XV}{l:List α}(r:RdX g t z enc v l)(hlv:∀m a,zu m (enc a))(hy:l.length*y≤140737488355328):
 Cl C (fun _=>False) f [.s v] g fun u g'=>u= .s (.lst t z l.length (l.flatMap enc))∧g'=g:=
 Fresh.frz (JM hf hzs hnl he hz r (hlv _) hy) (zQ (hlv _) l) (by rw[zf he])
theorem zfA{g:XH}{v:XV}{l:List Int}(r:RdX g 3 1 zT v l)(hl:l.length≤1000000):Cl C (fun _=>False) 158 [.s v] g fun u g'=>u= .s (Yv l)∧g'=g:=
 zfz (z:=1) rfl rfl rfl zI (by decide) r (fun m a=>by simp[zT]) (by omega)
theorem zmZ{g:XH}{v:XV}{l:List Bu}(r:RdX g 261 3 z8 v l)(hl:l.length≤1000000):Cl C (fun _=>False) 171 [.s v] g fun u g'=>u= .s (zi7 l)∧g'=g:=
 zfz (z:=3) rfl rfl rfl zP (by decide) r (fun m a=>zax a m) (by omega)
theorem zsM{g:XH}{v:XV}{l:List Wa}(r:RdX g 244 5 jF v l)(hl:l.length≤1000000):Cl C (fun _=>False) 159 [.s v] g fun u g'=>u= .s (zhy l)∧g'=g:=
 zfz (z:=5) rfl rfl rfl yl (by decide) r (fun m a=>zfP a m) (by omega)
@[simp] theorem Qu(m:Nat)(b:Bal):zu m (zi b):=by simp[zi]
@[simp] theorem zup(m:Nat)(b:Res):zu m (zG b):=by simp[zG]
@[simp] theorem zuo(m:Nat)(b:Inp):zu m (zR b):=by simp[zR]
@[simp] theorem Qw(m:Nat)(b:Pro):zu m (zF b):=by simp[zF]
structure BalL(b:Bal):Prop where
 lb:b.b.length≤400
 lr:b.r.length≤400
theorem zsA{g:XH}{b:Bal}(h:BalL b):Cl C (fun _=>False) 216 [.agg (zi b)] g fun u g'=>u= .agg (zi b)∧g'=g:=by have h1:=h.lb;have h2:=h.lr;refine Cl.ip rfl (zuv rfl) fun Ψ hΨ=> ?_;simp[zi];refine zy 5 [1] (fun _=>False) (by decide) (by decide) ?_;simp only[zuU,zvt,zu4,zu2];simp;refine zb.go0 (zmZ (RdX.lst _ b.b) (by omega)) ?_;simp;refine zb.go0 (zfA (RdX.lst _ b.r) (by omega)) ?_;simp;exact Gh.pure (u':= .agg (zi b)) (.agg (.lts (Qu _ b))) (hΨ _ _ ⟨rfl,rfl⟩)
theorem zpP{g:XH}:Cl C (fun _=>False) 226 [] g fun u g'=>u= .agg (zi Zw)∧g'=g:=by refine Cl.ip rfl (zuv rfl) fun Ψ hΨ=> ?_;simp;exact Gh.pure (u':= .agg (zi Zw)) (.agg (.cons (.lt (by simp)) (.cons .nil (.cons .nil (.lts (by simp)))))) (hΨ _ _ ⟨rfl,rfl⟩)
theorem Cl.lv{W:Nat→Prop}{f:Nat}{args:List XF}{g:XH}{Ψ:XF→XH→Prop}(h:(∀(i:Nat) (o:XO),g[i]? =some o→lvO g.length o)→Cl C W f args g Ψ):Cl C W f args g Ψ:=by rintro R args1 rfl H ra;exact h (fun i o e=>(H.ob i o e).lt) R args1 rfl H ra
theorem Y2{W:Nat→Prop}{g J:XH}{i:Nat}{o:XO}{Ψ:XF→XH→Prop}{u:XF}(hA:lvO g.length o)(hu:lvF g.length u)(h:Ψ u (g.set i o)):Gh W g Ψ u (g.set i o++J):=
 Gh.fz (FzH.refl.set i hA) (.lt hu) h
theorem zf1{W:Nat→Prop}{g:XH}{i:Nat}{o:XO}{Ψ:XF→XH→Prop}{u:XF}(hA:lvO g.length o)(hu:lvF g.length u)(h:Ψ u (g.set i o)):Gh W g Ψ u (g.set i o):=by
 have:=Y2 (W:=W) (J:=[]) (i:=i) hA hu h
 rwa [zu6] at this
abbrev TP:Nat:=84
def ProP(g:XH)(i:Nat)(inp:Inp)(r:XV)(o c u m:List XV):Prop:=g[i]? =some (.own 0 84 41 (pC inp r o c u m))∧o.length=8∧c.length=8∧u.length=7∧m.length=9
def zqt(t:List Rw)(inp:Inp)(rows:List Bu)(r next:Int)(rates:List Int):Prop:=jo t inp.j (inp.p.tdiv 4) inp.p=some r∧yU t inp.j inp.p=(next,0)∧zV t inp.j inp.p (rows.map (·.y))=some rates
theorem zn8{g:XH}{i:Nat}{inp:Inp}{r:XV}{o c u m:List XV}(hP:ProP g i inp r o c u m){a b:Nat}{t:List Rw}(ht:Ze 145 140 g a b t)(hl:t.length≤1000){rows:List Bu}(hr:rows.length≤1000)(hp:zn inp.p=true):
 Cl C (fun x=>x=i) 217 [.s (.ptr i 0 0),.s (.ptr a 0 0),.s (zi7 rows)] g fun v g'=>(∃r next rates,zqt t inp rows r next rates∧v=fi 0∧g'=g.set i (.own 0 84 41 (pC inp (xi r) o (zi ⟨inp.p,rows,rates,next,0,0,0,0⟩) u m)))∨(g'=g∧v=fi 7∧(jo t inp.j (inp.p.tdiv 4) inp.p=none∨(yU t inp.j inp.p).2≠0∨zV t inp.j inp.p (rows.map (·.y))=none)):=by
 obtain⟨hi,ho,hc,hu,hm⟩:=hP;obtain⟨o0,o1,o2,o3,o4,o5,o6,o7,rfl⟩:=len8 ho;obtain⟨c0,c1,c2,c3,c4,c5,c6,c7,rfl⟩:=len8 hc;obtain⟨u0,u1,u2,u3,u4,u5,u6,rfl⟩:=len7 hu;obtain⟨m0,m1,m2,m3,m4,m5,m6,m7,m8,rfl⟩:=len9 hm;have li:=ze hi;have hy:Yp inp.p=inp.p.tdiv 4:=by unfold Yp;rw[zuF hp]
 refine Cl.lv fun hG=> ?_;have hlv:=hG i _ hi;simp[lvO,pC,zR] at hlv;refine Cl.ip rfl (zuv rfl) fun Ψ hΨ=> ?_;simp[pC,zR] at hi;simp[hi,li];refine zex (fun _=>False) (by simp) ?_;simp;refine zb.pure (zk1 ..) ?_;rw[hy];simp;refine zb.go0 (zgG ht.app hl inp.j (inp.p.tdiv 4) inp.p) ?_;rcases h1:jo t inp.j (inp.p.tdiv 4) inp.p with _|r1
 ·simp;exact Gh.pure .i (hΨ _ _ (.inr ⟨rfl,rfl,.inl h1⟩))
 simp;refine zb.go0 (zhH ht.app hl inp.j inp.p) ?_;simp;refine zc (fun h2=> ?_) (fun h2=> ?_)
 ·simp at h2;have h3:(yU t inp.j inp.p).2=7:=by
   unfold yU at h2⊢;rw[zuF hp] at h2⊢;split at h2
   ·exact absurd rfl h2
   ·rfl
  simp;rw[h3];exact Gh.pure .i (hΨ _ _ (.inr ⟨rfl,rfl,.inr (.inl (by rw[h3];decide))⟩))
 simp at h2;have e2:yU t inp.j inp.p=((yU t inp.j inp.p).1,0):=by rw[←h2]
 simp;refine zb.go0 (zof ht.app hl inp.j inp.p (RdX.lst _ rows) hr) ?_;rcases h3:zV t inp.j inp.p (rows.map (·.y)) with _|rates
 ·rw[show Zq t inp.j inp.p (rows.map (·.y))= .tup [.s (.v .nils),fi 7] by simp[Zq,hp,h3]];simp;exact Gh.pure .i (hΨ _ _ (.inr ⟨rfl,rfl,.inr (.inr h3)⟩))
 rw[show Zq t inp.j inp.p (rows.map (·.y))= .tup [.s (Yv rates),fi 0] by simp[Zq,hp,h3]];simp;refine zy 12 [7] (fun x=>x=i) (by decide) (by decide) ?_;simp only[zuU,zvt,zu4,zu2];simp[hi,li];exact⟨by omega,Y2 (by simp[lvO,hlv]) (by simp) (hΨ _ _ (.inl ⟨r1,_,rates,⟨h1,e2,h3⟩,rfl,rfl⟩))⟩
def za9(rows:List Bu)(rates:List Int)(next left judge tm ls al:Int):Prop:=jL rows rates=(tm,0)∧zl left next=(ls,0)∧jY ls judge=(al,0)
theorem ztJ{g:XH}{i:Nat}{inp:Inp}{r:XV}{o u m:List XV}{p next left:Int}{rows:List Bu}{rates:List Int}(hP:ProP g i inp r o (zi ⟨p,rows,rates,next,left,0,0,0⟩) u m)(hr:rows.length≤1000):
 Cl C (fun x=>x=i) 222 [.s (.ptr i 0 0)] g fun v g'=>(∃tm ls al,za9 rows rates next left inp.judge tm ls al∧v=fi 0∧g'=g.set i (.own 0 84 41 (pC inp r o (zi ⟨p,rows,rates,next,left,tm,ls,al⟩) u m)))∨∃e X,e≠0∧v=fi e∧g'=g.set i X∧((jL rows rates).2=e∨((jL rows rates).2=0∧(zl left next).2=e)∨((jL rows rates).2=0∧(zl left next).2=0∧(jY (zl left next).1 inp.judge).2=e)):=by
 obtain⟨hi,ho,hc,hu,hm⟩:=hP;obtain⟨o0,o1,o2,o3,o4,o5,o6,o7,rfl⟩:=len8 ho;obtain⟨u0,u1,u2,u3,u4,u5,u6,rfl⟩:=len7 hu;obtain⟨m0,m1,m2,m3,m4,m5,m6,m7,m8,rfl⟩:=len9 hm;have li:=ze hi;refine Cl.lv fun hG=> ?_;have hlv:=hG i _ hi;simp[lvO,pC,zR,zi] at hlv;refine Cl.ip rfl (zuv rfl) fun Ψ hΨ=> ?_;simp[pC,zR,zi] at hi;have hs:g.set i (.own 0 84 41 (pC inp r [o0,o1,o2,o3,o4,o5,o6,o7] (zi ⟨p,rows,rates,next,left,0,0,0⟩) [u0,u1,u2,u3,u4,u5,u6] [m0,m1,m2,m3,m4,m5,m6,m7,m8]))=g:=y0 hi;simp[hi,li];refine zb.go0 (tempX (RdX.lst _ rows) (RdX.lst _ rates) hr) ?_;simp;refine zc (fun h1=> ?_) (fun h1=> ?_)
 ·simp at h1⊢;refine Gh.pure0 .i (hΨ _ _ (.inr ⟨_,_,h1,rfl,hs.symm,.inl rfl⟩))
 simp at h1;have e1:jL rows rates=((jL rows rates).1,0):=by rw[←h1]
 simp[hi,li];refine zb.pure (lossP ..) ?_;simp;refine zc (fun h2=> ?_) (fun h2=> ?_)
 ·simp at h2⊢;refine zf1 (by simp[lvO,hlv]) (by simp) (hΨ _ _ (.inr ⟨_,_,h2,rfl,rfl,.inr (.inl ⟨h1,rfl⟩)⟩))
 simp at h2;have e2:zl left next=((zl left next).1,0):=by rw[←h2]
 simp[hi,li];refine zb.pure (zsw ..) ?_;simp;refine zc (fun h3=> ?_) (fun h3=> ?_)
 ·simp at h3⊢;refine zf1 (by simp[lvO,hlv]) (by simp) (hΨ _ _ (.inr ⟨_,_,h3,rfl,rfl,.inr (.inr ⟨h1,h2,rfl⟩)⟩))
 simp at h3;have e3:jY (zl left next).1 inp.judge=((jY (zl left next).1 inp.judge).1,0):=by rw[←h3]
 simp[hi,li];exact zf1 (by simp[lvO,hlv]) (by simp) (hΨ _ _ (.inl ⟨_,_,_,⟨e1,e2,e3⟩,rfl,rfl⟩))
theorem Ze.set{T R:Nat}{g:XH}{a b i:Nat}{X:XO}{t:List Rw}(h:Ze T R g a b t)(ha:a≠i)(hb:b≠i):Ze T R (g.set i X) a b t:=by obtain⟨w,h1,h2⟩:=h;exact⟨w,by rw[zH ha.symm];exact h1,by rw[zH hb.symm];exact h2⟩
theorem zaB{l:List Int}{k:Nat}(hk:k<l.length):(l.flatMap zT)[k]? =some (xi l[k]):=by have:=(atX zI hk).2.2 0 (by decide);simpa[zT] using this
theorem keyCP(x:Bu)(w:Wa){g:XH}{a:Nat}(ha:g[a]? =some (.own 0 244 5 (jF w))):Cl C (fun _=>False) 288 [.agg (z8 x),.s (.ptr a 0 0)] g fun u g'=>u=fb (jA w.c w.y x)∧g'=g:=by
 have la:=ze ha;refine Cl.ip rfl (zuv rfl) fun Ψ hΨ=> ?_;simp[z8,jF] at ha⊢;simp[ha,la]
 repeat' first|(refine zc (fun hc=> ?_) (fun hc=> ?_)<;>try simp[z8,ha,la])
 all_goals(refine Gh.pure (.s (.lt (by simp))) (hΨ _ _ ⟨?_,rfl⟩);simp at *;simp[jA, *])
theorem zby(c y now:Int):∀(l:List Bu) (s:List Int) (k:Nat),(ym (jA c y) k l= -1∧ZZ l s c y now=now)∨∃i,ym (jA c y) k l=((k+i:Nat):Int)∧i<l.length∧((∃h:i<s.length,ZZ l s c y now=s[i])∨(s.length≤i∧ZZ l s c y now=now))
 |[],_,_=> .inl ⟨rfl,by simp[ZZ]⟩
 |b::l,s,k=>by
  unfold ym;cases hk:jA c y b with
  |true=>
   refine .inr ⟨0,by simp,by simp,?_⟩;cases s with
   |nil=>exact .inr ⟨zuB _,by simp[ZZ]⟩
   |cons r s=>exact .inl ⟨by simp,by simp[ZZ,hk]⟩
  |false=>
   cases s with
   |nil=>
    rcases zby c y now l [] (k+1) with⟨h1,_⟩|⟨i,h1,h2,_⟩
    ·exact .inl ⟨by simpa using h1,by simp[ZZ]⟩
    ·exact .inr ⟨i+1,by simp only[zu0,if_false];rw[h1];congr 1;omega,by simpa using h2,.inr ⟨by simp,by simp[ZZ]⟩⟩
   |cons r s=>
    have e:ZZ (b::l) (r::s) c y now=ZZ l s c y now:=by simp[ZZ,hk]
    rw[e];rcases zby c y now l s (k+1) with⟨h1,h2⟩|⟨i,h1,h2,h3⟩
    ·exact .inl ⟨by simpa using h1,h2⟩
    ·refine .inr ⟨i+1,by simp only[zu0,if_false];rw[h1];congr 1;omega,by simpa using h2,?_⟩;rcases h3 with⟨h3,h4⟩|⟨h3,h4⟩
     ·exact .inl ⟨by simpa using h3,by simpa using h4⟩
     ·exact .inr ⟨by simpa using h3,h4⟩
theorem zdN(op:Bal):∀(l:List Wa) (s:List Int) (k:Nat) (h1:k<l.length) (h2:k<s.length),yI op (l.take (k+1)) (s.take (k+1))=yI op (l.take k) (s.take k)++[ZZ op.b op.r l[k].c l[k].y s[k]]
 |[],_,k,h1,_=>by simp at h1
 |_::_,[],k,_,h2=>by simp at h2
 |b::l,r::s,0,_,_=>by simp[yI]
 |b::l,r::s,k+1,h1,h2=>by simp only[zuU,yI,zv5,zvX];rw[zdN op l s k (by simpa using h1) (by simpa using h2)]
theorem zbz(op:Bal):∀(l:List Wa) (s:List Int),l.length=s.length→(yI op l s).length=l.length
 |[],[],_=>by simp[yI]
 |[],_::_,h=>by simp at h
 |_::_,[],h=>by simp at h
 |b::l,r::s,h=>by simp only[yI,zvk];rw[zbz op l s (by simpa using h)]
theorem ZS(t:List Rw)(j:ByteArray)(p:Int):∀(l:List Int) (m:List Int),zV t j p l=some m→m.length=l.length
 |[],m,h=>by
  simp[zV] at h;rw[←h]
 |y::l,m,h=>by
  simp only[zV] at h;cases hr:jo t j (max y (p.tdiv 4)) p with
  |none=>rw[hr] at h;cases h
  |some r=>
   rw[hr] at h;obtain⟨m',h1,rfl⟩:=zuy.1 h;simp[ZS t j p l m' h1]
theorem Zv(o c:List Bu):(zw o c).length≤o.length+c.length:=by have h1:=YF o [];have h2:=YG c (o.foldl qp []);simp only[zvY] at h1;unfold zw;rw[zK,zuY];omega
def zka(t:List Rw)(inp:Inp)(op:Bal)(ways:List Wa)(now:List Int)(tm tr:Int):Prop:=zV t inp.j inp.p (ways.map (·.y))=some now∧JL ways (yI op ways now) now=(tm,tr,0)
def zmX(t:List Rw)(inp:Inp)(op:Bal)(ways:List Wa)(e:Int):Prop:=(zV t inp.j inp.p (ways.map (·.y))=none∧e=7)∨∃now,zV t inp.j inp.p (ways.map (·.y))=some now∧(JL ways (yI op ways now) now).2.2=e∧e≠0
theorem ztK{g:XH}{i:Nat}{inp:Inp}{r:XV}{op cl:Bal}{u m:List XV}(hP:ProP g i inp r (zi op) (zi cl) u m)(hop:BalL op)(hcl:BalL cl){a b:Nat}{t:List Rw}(ht:Ze 145 140 g a b t)(hai:a≠i)(hbi:b≠i)(hl:t.length≤1000)(hp:zn inp.p=true):
 Cl C (fun x=>x=i) 224 [.s (.ptr i 0 0),.s (.ptr a 0 0)] g fun v g'=>(∃now tm tr,zka t inp op (zw op.b cl.b) now tm tr∧v=fi 0∧g'=g.set i (.own 0 84 41 (pC inp r (zi op) (zi cl) u ([zhy (zw op.b cl.b),Yv now,xi tm,xi tr]++m.drop 4))))∨∃e X,zmX t inp op (zw op.b cl.b) e∧v=fi e∧g'=g.set i X:=by
 obtain⟨hi,ho,hc,hu,hm⟩:=hP;obtain⟨u0,u1,u2,u3,u4,u5,u6,rfl⟩:=len7 hu;obtain⟨m0,m1,m2,m3,m4,m5,m6,m7,m8,rfl⟩:=len9 hm;have li:=ze hi;have hol:=hop.lb;have hor:=hop.lr;have hcb:=hcl.lb;refine Cl.lv fun hG=> ?_;have hlv:=hG i _ hi;simp[lvO,pC,zR,zi] at hlv;refine Cl.ip rfl (zuv rfl) fun Ψ hΨ=> ?_;simp[pC,zR,zi] at hi;simp[hi,li];refine zb.go0 (Qe (RdX.lst _ op.b) (RdX.lst _ cl.b) hol hcb) ?_;have hwl:=Zv op.b cl.b;generalize hways:zw op.b cl.b=ways at *;simp[hi,li];generalize hGG:g.set i _=G;change XH at G;have hG1:=(congrArg (fun G:XH=>G[i]?) hGG).symm;rw[yo li] at hG1;have hGl:G.length=g.length:=by rw[←hGG,zvf]
 have liG:i<G.length:=by omega
 have htG:Ze 145 140 G a b t:=by rw[←hGG];exact ht.set hai hbi
 have hset:∀X,G.set i X=g.set i X:=fun X=>by rw[←hGG,List.set_set]
 clear hGG;rw[←hGl];refine Lp.genG 261 3 (σ:=Nat) ways.length (fun k w=>[(5,.s (.sl G.length w 0 k)),(33,fi k)]) (fun k w=>G++[.own w 261 3 (((ways.take k).map fun x=>(⟨x.c,x.y,0⟩:Bu)).flatMap z8)]) (fun k w=>True) 0 (by decide) rfl (by simp[GhF]) (by simp) trivial ?_ ?_
 ·rintro q hq w _ hlt N hN;obtain⟨a1,a2,_⟩:=atX yl hq;have e1:(ways.take (q+1)).map (fun x=>(⟨x.c,x.y,0⟩:Bu))=(ways.take q).map (fun x=>(⟨x.c,x.y,0⟩:Bu))++[⟨ways[q].c,ways[q].y,0⟩]:=by rw[zuT hq,zvg];rfl
  have hfl:(((ways.take q).map fun x=>(⟨x.c,x.y,0⟩:Bu)).flatMap z8).length=q*3:=by rw[zf zP];simp;omega
  rw[e1] at hN;rw[zvi] at hN;have hlF:∀m,zu m (((ways.take q).map fun x=>(⟨x.c,x.y,0⟩:Bu)).flatMap z8):=fun m=>JO m _;generalize((ways.take q).map fun x=>(⟨x.c,x.y,0⟩:Bu)).flatMap z8=F at *;simp[l224_0,hq,a1,a2,jF,hfl,show(q+1)*24≤140737488355328 by omega,yE hq (by omega)];exact jf (fun fr g'=>hN (w+1) fr g' trivial) (by simp[z8]) (by simp) (by simpa using hlt) (by simp[lvO,hlF,z8])
 ·rintro w _;simp[l224_0,hG1,liG];have hall:RdX (G++[.own w 261 3 ((ways.map fun x=>(⟨x.c,x.y,0⟩:Bu)).flatMap z8)]) 261 3 z8 (.sl G.length w 0 (ways.map fun x=>(⟨x.c,x.y,0⟩:Bu)).length) (ways.map fun x=>(⟨x.c,x.y,0⟩:Bu)):=RdX.sl zP (by simp);have hq:=zof htG.app hl inp.j inp.p hall (by simp;omega);rw[zuY,zwE] at hq;have ey:((fun x:Bu=>x.y)∘fun x:Wa=>(⟨x.c,x.y,0⟩:Bu))=fun x=>x.y:=rfl;rw[ey] at hq;refine zb.go0 hq ?_;clear hq hall;rcases h1:zV t inp.j inp.p (ways.map (·.y)) with _|now
  ·rw[show Zq t inp.j inp.p (ways.map (·.y))= .tup [.s (.v .nils),fi 7] by simp[Zq,hp,h1]];simp;rw[←y0 hG1,hset];exact Y2 (by simp[lvO,hlv]) (by simp) (hΨ _ _ (.inr ⟨7,_,.inl ⟨h1,rfl⟩,rfl,rfl⟩))
  rw[show Zq t inp.j inp.p (ways.map (·.y))= .tup [.s (Yv now),fi 0] by simp[Zq,hp,h1]];have hnl:=ZS _ _ _ _ _ h1;rw[zuY] at hnl;simp[hG1,liG];rw[hset];generalize hHH:g.set i _=H;change XH at H;have hH1:=(congrArg (fun G:XH=>G[i]?) hHH).symm;rw[yo li] at hH1;have hHl:H.length=g.length:=by rw[←hHH,zvf]
  have hsetH:∀X,H.set i X=g.set i X:=fun X=>by rw[←hHH,List.set_set]
  clear hHH;rw[show G.length=H.length by omega];clear hG1 liG htG hset;generalize hK:H++[XO.own w 261 3 ((ways.map fun x=>(⟨x.c,x.y,0⟩:Bu)).flatMap z8)]=K;have hK1:K[i]? =some (.own 0 84 41 [xs inp.j,xi inp.p,xi inp.book,xi inp.perm,xi inp.judge,xi inp.cap,xi inp.life,xi inp.up,r,xi op.p,zi7 op.b,Yv op.r,xi op.next,xi op.left,xi op.temp,xi op.loss,xi op.allow,xi cl.p,zi7 cl.b,Yv cl.r,xi cl.next,xi cl.left,xi cl.temp,xi cl.loss,xi cl.allow,u0,u1,u2,u3,u4,u5,u6,zhy ways,Yv now,m2,m3,m4,m5,m6,m7,m8]):=by rw[←hK,zq (by omega)];exact hH1
  have liK:i<K.length:=ze hK1;have hKH:H.length≤K.length:=by rw[←hK];simp
  have hHK:∃J,K=H++J:=⟨_,hK.symm⟩
  clear hK;refine zb.go (JM (z:=1) (enc:=zT) rfl rfl rfl zI (by decide) (RdX.lst K now) (fun a=>by simp[zT]) (by omega)) (fun _ _ h=>h.elim) ?_;rintro v g' ⟨w2,rfl,rfl⟩;simp[hK1,liK];refine Lp.genU (σ:=Unit) ways.length (fun k _=>[(76,fi k)]) (fun k _=>K++[.own w2 3 1 ((yI op (ways.take k) (now.take k)++now.drop k).flatMap zT)]) (fun k _=>True) () (by decide) rfl (by simp) (by simp[yI]) trivial ?_ ?_
  ·rintro q hq _ _ hlt N hN;obtain⟨a1,a2,_⟩:=atX yl hq;have hqn:q<now.length:=by omega
   have o1:=zdN op ways now q hq hqn;have ol:=zbz op (ways.take q) (now.take q) (by simp;omega);rw[zuR,zvn (by omega)] at ol;have hMl:(yI op (ways.take q) (now.take q)++now.drop q).length=now.length:=by simp[ol];omega
   obtain⟨nq,hnq⟩:∃n,n=now[q]'hqn:=⟨_,rfl⟩
   rw[←hnq] at o1;have hMq:∀h,(yI op (ways.take q) (now.take q)++now.drop q)[q]'h=nq:=fun h=>by
    have e:(yI op (ways.take q) (now.take q)++now.drop q)[q]? =now[q]? :=by rw[zuC (by omega),ol,zvy,zvE,zv1]
    rw[zuJ h,zuJ hqn,←hnq] at e;exact zuw e
   have hM2:yI op (ways.take (q+1)) (now.take (q+1))++now.drop (q+1)=(yI op (ways.take q) (now.take q)++now.drop q).set q (ZZ op.b op.r ways[q].c ways[q].y nq):=by rw[o1,zvK _ _ (by omega),ol,zvy,zvc hqn,←hnq,zuX];rfl
   rw[hM2] at hN;clear hM2;generalize yI op (ways.take q) (now.take q)++now.drop q=M at *;have hqM:q<M.length:=by omega
   have hMq:=hMq hqM;have h2:=zf zI M;have hcs:¬M.flatMap zT=[]:=fun e=>by rw[e] at h2;simp at h2;omega
   have hs:=jP zI (l:=M) (k:=q) (by omega) (c:=0) (by decide) (v:=xi (ZZ op.b op.r ways[q].c ways[q].y nq)) (x:=ZZ op.b op.r ways[q].c ways[q].y nq) rfl [];simp only[zu6,zxK,zv1] at hs;simp[l224_1,hq,a1,a2,jF,hK1,liK,show H.length≤K.length+1 by omega];refine zb.go0 (Ys (q:=jA ways[q].c ways[q].y) (f:=287) rfl zP (by decide) (RdX.lst _ op.b) (by omega) (.inr ⟨K.length+2,288,[],[.s (.ptr (K.length+1) 0 0)],rfl,by simp,fun x _=>keyCP x ways[q] (by simp[jF])⟩)) ?_;have same:ZZ op.b op.r ways[q].c ways[q].y nq=nq→∀fr J,fr=(qk [(0,some (.s (.ptr i 0 0))),(8,some (.s (Yv now))),(10,some (.s (.sl K.length w2 0 now.length))),(74,some (.s (zhy ways))),(75,some (fi ways.length)),(76,some (fi 0))] [(76,fi ((q+1:Nat):Int))])→N fr (K++XO.own w2 3 1 (M.flatMap zT)::J):=fun he fr J hf=>by refine jf (fun fr g'=>hN () fr g' trivial) ?_ hf (by simpa using hlt) (by simp[lvO]);rw[he,←hMq,zwY]
   rcases zby ways[q].c ways[q].y nq op.b op.r 0 with⟨f1,f2⟩|⟨k,f1,f2,f3⟩
   ·simp[f1,hK1,liK,yE hq (by omega)];exact same f2 _ _ (by simp)
   ·rw[zve] at f1;simp[f1,hK1,liK];rcases f3 with⟨f3,f4⟩|⟨f3,f4⟩
    ·simp[f3,hK1,liK,zaB f3,f4.symm,hKH,hqM,hcs,hs,h2,show q<now.length by omega,show q+1≤M.length by omega,show¬M=[] from fun e=>by rw[e] at hqM;simp at hqM,yE hq (by omega)];exact jf (fun fr g'=>hN () fr g' trivial) rfl (by simp) (by simpa using hlt) (by simp[lvO])
    ·simp[show¬k<op.r.length by omega,hK1,liK,yE hq (by omega)];exact same f4 _ _ (by simp)
  ·rintro _ _;rw[zu3,zvq (by omega),List.drop_of_length_le (by omega),zu6];have hol:=zbz op ways now (by omega);simp[l224_1,hK1,liK];have hrd:RdX (K++[.own w2 3 1 ((yI op ways now).flatMap zT)]) 3 1 zT (.sl K.length w2 0 now.length) (yI op ways now):=by
    have:=RdX.sl (g:=K++[.own w2 3 1 ((yI op ways now).flatMap zT)]) (i:=K.length) (w:=w2) (t:=3) zI (l:=yI op ways now) (by simp);rw[hol,←hnl] at this;exact this
   have hT:=zq4 (o:=op.b) (c:=cl.b) (RdX.lst _ op.b) (RdX.lst _ cl.b) hrd (RdX.lst _ now) (by omega) hcb;refine zb.go0 hT ?_;clear hT hrd;obtain⟨J,rfl⟩:=hHK;have liH:i<H.length:=by omega
   rw[hways];generalize hX:JL ways (yI op ways now) now=X at *;obtain⟨tm,tr,e⟩:=X;simp[hH1,liH,hK1];rw[hsetH];by_cases he:e=0
   ·subst he;exact Y2 (by simp[lvO,hlv]) (by simp) (hΨ _ _ (.inl ⟨now,tm,tr,⟨h1,hX⟩,rfl,rfl⟩))
   ·exact Y2 (by simp[lvO,hlv]) (by simp) (hΨ _ _ (.inr ⟨e,_,.inr ⟨now,h1,by rw[hX],he⟩,rfl,rfl⟩))
theorem zpT(a b:Int):Pure C 290 [fi a,fi b] (fi (wr (a-b))):=by refine Pure.intro0 (e:=e290) rfl (zuv rfl) (by simp) fun g Ψ h0 hJ=> ?_;simp;exact h0
theorem zog(a b:Int):Pure C 291 [.agg [xi a,xi b]] (fi (wr (a+b))):=by refine Pure.intro0 (e:=e291) rfl (zuv rfl) (by simp) fun g Ψ h0 hJ=> ?_;simp;exact hJ _
structure Cost where
 lm:Int
 lr:Int
 am:Int
 de:Int
 tot:Int
def yQ(op cl:Bal)(tax up tm tr:Int):Cost:=
 let lr:=wr (zg op.left op.next-zg op.left cl.next);let lm:=wr (wr (op.loss-cl.loss)-lr);let am:=wr (op.allow-cl.allow);let de:=wr (wr (wr (wr (tm+tr)+lm)+lr)+am)
 ⟨lm,lr,am,de,wr (wr (tax+de)+up)⟩
def Jm(op cl:Bal)(tax up tm tr:Int):List Int:=
 let c:=yQ op cl tax up tm tr
 [c.lm,c.lr,c.am,wr (tax+up),wr (cl.temp-op.temp),wr (cl.loss-op.loss),wr (cl.allow-op.allow),c.de,c.tot]
set_option maxRecDepth 8000 in
theorem zn7{g:XH}{i:Nat}{inp:Inp}{r:XV}{op cl:Bal}{cur:Res}{tm tr:Int}{ways now m4 m5 m6 m7 m8:XV}(hP:ProP g i inp r (zi op) (zi cl) (zG cur) [ways,now,xi tm,xi tr,m4,m5,m6,m7,m8]):
 Cl C (fun x=>x=i) 225 [.s (.ptr i 0 0)] g fun v g'=>v=fi (if(Jm op cl cur.tax inp.up tm tr).all za then 0 else 6)∧g'=g.set i (.own 0 84 41 (pC inp r (zi op) (zi cl) (zG cur) [ways,now,xi tm,xi tr,xi (yQ op cl cur.tax inp.up tm tr).lm,xi (yQ op cl cur.tax inp.up tm tr).lr,xi (yQ op cl cur.tax inp.up tm tr).am,xi (yQ op cl cur.tax inp.up tm tr).de,xi (yQ op cl cur.tax inp.up tm tr).tot])):=by
 obtain⟨hi,ho,hc,hu,hm⟩:=hP;have li:=ze hi;refine Cl.lv fun hG=> ?_;have hlv:=hG i _ hi;simp[lvO,pC,zR,zi,zG] at hlv;refine Cl.ip rfl (zuv rfl) fun Ψ hΨ=> ?_;simp[pC,zR,zi,zG] at hi;simp[hi,li];refine zy 11 [0] (fun _=>False) (by decide) (by decide) ?_;simp only[zuU,zvt,zu4,zu2];simp[hi,li];refine zb.pure (ofX ..) ?_;simp[hi,li];refine zb.pure (ofX ..) ?_;simp[hi,li];refine zb.pure (zpT ..) ?_;simp[hi,li];refine zy 20 [0] (fun _=>False) (by decide) (by decide) ?_;simp only[zuU,zvt,zu4,zu2];simp[hi,li];refine zb.pure (zog ..) ?_;simp[hi,li];refine Lp.genU (σ:=Unit) 9 (fun k _=>[(152,fi k)]) (fun _ _=>g.set i (.own 0 84 41 (pC inp r (zi op) (zi cl) (zG cur) [ways,now,xi tm,xi tr,xi (yQ op cl cur.tax inp.up tm tr).lm,xi (yQ op cl cur.tax inp.up tm tr).lr,xi (yQ op cl cur.tax inp.up tm tr).am,xi (yQ op cl cur.tax inp.up tm tr).de,xi (yQ op cl cur.tax inp.up tm tr).tot]))++[.own 0 77 8 (zi op),.own 0 77 8 (zi cl),.own 0 3 1 ((Jm op cl cur.tax inp.up tm tr).flatMap zT)]) (fun k _=>∀(j:Nat) (h:j<(Jm op cl cur.tax inp.up tm tr).length),j<k→za (Jm op cl cur.tax inp.up tm tr)[j]=true) () (by decide) rfl (by simp) rfl (by omega) ?_ ?_
 all_goals have hlv2:lvO g.length (.own 0 84 41 (pC inp r (zi op) (zi cl) (zG cur) [ways,now,xi tm,xi tr,xi (yQ op cl cur.tax inp.up tm tr).lm,xi (yQ op cl cur.tax inp.up tm tr).lr,xi (yQ op cl cur.tax inp.up tm tr).am,xi (yQ op cl cur.tax inp.up tm tr).de,xi (yQ op cl cur.tax inp.up tm tr).tot])):=by simp[lvO,pC,hlv]
 all_goals generalize XO.own 0 84 41 (pC inp r (zi op) (zi cl) (zG cur) [ways,now,xi tm,xi tr,xi (yQ op cl cur.tax inp.up tm tr).lm,xi (yQ op cl cur.tax inp.up tm tr).lr,xi (yQ op cl cur.tax inp.up tm tr).am,xi (yQ op cl cur.tax inp.up tm tr).de,xi (yQ op cl cur.tax inp.up tm tr).tot])=X at *
 all_goals have hl9:(Jm op cl cur.tax inp.up tm tr).length=9:=rfl
 all_goals generalize Jm op cl cur.tax inp.up tm tr=l at *
 ·rintro q hq _ hP hlt N hN;have hql:q<l.length:=by omega
  have e:=zaB hql;simp[l225_0,show(q:Int)<9 by omega,hq,e];refine zb.pure (ya ..) ?_;simp;refine zc (fun h1=> ?_) (fun h1=> ?_)
  ·simp[yE hq (by omega)];exact qC () hN (fun j h hj=>if hjq:j<q then hP j h hjq else by
    obtain rfl:j=q:=by omega
    exact h1) (by simp) (by simp)
  ·simp;refine Y2 hlv2 (by simp) (hΨ _ _ ⟨?_,rfl⟩);have:l.all za=false:=by
    rw[zxm];exact⟨_,zu5 hql,by simp[h1]⟩
   simp[this]
 ·rintro _ hP;simp[l225_0];refine Y2 hlv2 (by simp) (hΨ _ _ ⟨?_,rfl⟩);have:l.all za=true:=by
   rw[zuV];intro x hx;obtain⟨j,hj,rfl⟩:=zwN hx;exact hP j hj (by omega)
  simp[this]
theorem jd{α:Type}(lt:α→α→Bool)(b:α):∀(l:List α),(ZY lt b l).Perm (b::l)
 |[]=>List.Perm.refl _
 |x::r=>by
  unfold ZY;split
  ·exact List.Perm.refl _
  ·exact((jd lt b r).cons x).trans (List.Perm.swap b x r)
theorem yx{α:Type}(lt:α→α→Bool):∀(l:List α),(zt lt l).Perm l
 |[]=>List.Perm.refl _
 |x::r=>by unfold zt;exact(jd lt x _).trans ((yx lt r).cons x)
theorem zij{α:Type}(f:α→Int){l m:List α}(h:l.Perm m):(l.map f).sum=(m.map f).sum:=by
 induction h with
 |nil=>rfl
 |cons x _ ih=>simp[ih]
 |swap x y l=>simp;omega
 |trans _ _ h1 h2=>exact h1.trans h2
def zek(a b:Vi):Prop:=¬(a.o=b.o∧a.e=b.e)
theorem zbt{a b:Vi}:(ltV a b||ltV b a)=true↔zek a b:=by unfold zek;simp[ltV];omega
theorem yW:∀{l:List Vi},jy ltV l=true↔l.Pairwise zek
 |[]=>by simp[jy]
 |x::l=>by simp only[jy,zuE,zuV,zu1,yW (l:=l)];exact⟨fun h=>⟨fun y hy=>zbt.1 (h.1 y hy),h.2⟩,fun h=>⟨fun y hy=>zbt.2 (h.1 y hy),h.2⟩⟩
theorem LosI.perm{l m:List Vi}(h:LosI l)(p:m.Perm l):LosI m:=by
 refine⟨by rw[p.length_eq];exact h.len,fun v hv=>h.m v (p.mem_iff.1 hv),?_,?_⟩
 ·have:zB m=zB l:=zij _ p;rw[this];exact h.t
 ·rw[yW] at *;have h':=yW.1 h.d;refine(p.symm.pairwise h' ?_);intro a b k e;exact k ⟨e.1.symm,e.2.symm⟩
theorem LosI.cons{v:Vi}{l:List Vi}(h:LosI (v::l)):LosI l:=by have h1:=h.m v (by simp);have h2:=JV (l:=l) fun x hx=>h.m x (by simp[hx]);have h3:=h.t;have h4:=h.len;refine⟨by simp at h4;omega,fun x hx=>h.m x (by simp[hx]),?_,yW.2 (zu1.1 (yW.1 h.d)).2⟩;simp only[zB,zuS,zwh,za,zuK] at h3 h2;exact zvz (by unfold zB;constructor<;>omega)
theorem znB{l:List Vi}(h:∀v∈l,0≤v.n∧za v.n=true){v:Vi}(hv:v∈l):v.n≤zB l:=by
 induction l with
 |nil=>simp at hv
 |cons x l ih=>
  have h1:=h x (by simp);have h2:=JV (l:=l) fun x hx=>h x (by simp[hx]);simp only[zB,zuS,zwh] at ih h2⊢;rcases zuO.1 hv with rfl|hv
  ·omega
  ·have:=ih (fun x hx=>h x (by simp[hx])) hv;omega
theorem ze7(o e n:Int):∀(l:List Vi),l.any (Yt o e)=true→zB (QJ o e n l)=zB l+n∧(QJ o e n l).length=l.length∧(QJ o e n l).map (fun v=>(v.o,v.e))=l.map (fun v=>(v.o,v.e))∧∀v∈QJ o e n l,v∈l∨∃x∈l,v.n=x.n+n
 |[],h=>by simp at h
 |x::l,h=>by
  unfold QJ;split
  ·refine⟨by simp[zB];omega,by simp,by simp,fun v hv=> ?_⟩;rcases zuO.1 hv with rfl|hv
   ·exact .inr ⟨x,by simp,rfl⟩
   ·exact .inl (by simp[hv])
  ·rename_i hx;obtain⟨h1,h2,h3,h4⟩:=ze7 o e n l (by simpa[hx] using h);refine⟨by simp only[zB,zuS,zwh] at h1⊢;omega,by simp[h2],by simp[h3],fun v hv=> ?_⟩;rcases zuO.1 hv with rfl|hv
   ·exact .inl (by simp)
   ·rcases h4 v hv with h|⟨y,hy,e⟩
    ·exact .inl (by simp[h])
    ·exact .inr ⟨y,by simp[hy],e⟩
theorem ze0{l m:List Vi}(h:m.map (fun v=>(v.o,v.e))=l.map (fun v=>(v.o,v.e)))(k:l.Pairwise zek):m.Pairwise zek:=by have h1:(l.map (fun v:Vi=>(v.o,v.e))).Pairwise (fun a b=>¬(a.1=b.1∧a.2=b.2)):=zwK.2 k;rw[←h] at h1;exact(zwK (f:=fun v:Vi=>(v.o,v.e))).1 h1
theorem zpK{l:List Vi}(h:LosI l){o e n:Int}(h0:(QI l o e n).1=0):LosI (QI l o e n).2:=by
 unfold QI at h0⊢;split at h0
 ·simp at h0
 rename_i k1;rw[zuH k1];split at h0
 ·simp at h0
 rename_i k2;rw[zuH k2];have hn:1≤n:=by omega
 have ht:za (zB l+n)=true:=by simpa using k2
 split at h0
 ·rename_i k3;rw[zuF k3];obtain⟨h1,h2,h3,h4⟩:=ze7 o e n l k3;refine⟨by rw[h2];exact h.len,fun v hv=> ?_,by rw[h1];exact ht,yW.2 (ze0 h3 (yW.1 h.d))⟩;rcases h4 v hv with hv|⟨x,hx,e⟩
  ·exact h.m v hv
  ·have a1:=h.m x hx;have a2:=znB h.m hx;simp[za] at a1 ht⊢;omega
 ·rename_i k3;rw[zuH k3];split at h0
  ·simp at h0
  rename_i k4;rw[zuH k4];refine LosI.perm ?_ (yx ltV _);refine⟨by simp;omega,fun v hv=> ?_,?_,?_⟩
  ·rcases zuM.1 hv with hv|hv
   ·exact h.m v hv
   ·rw[zu9] at hv;subst hv;have:za n=true:=by simp at k1;exact k1.2.2
    exact⟨by show 0≤n;omega,this⟩
  ·simp only[zB,zvg,zwL,zuS,zwa,zxE] at ht⊢;exact ht
  ·refine yW.2 (zxv.2 ⟨yW.1 h.d,by simp,fun a ha b hb=> ?_⟩);rw[zu9] at hb;subst hb;rintro⟨e1,e2⟩;exact k3 (zwl.2 ⟨a,ha,by simp[Yt,e1,e2]⟩)
theorem zpx:∀{l:List Vi} {us:List Int},LosI l→(∀j (h1:j<us.length) (h2:j<l.length),0≤us[j]∧us[j]≤l[j].n)→us.length=l.length→let m:=List.zipWith Yc l us;(∀v∈m,0≤v.n∧za v.n=true)∧zB m≤zB l∧m.map (fun v=>(v.o,v.e))=l.map (fun v=>(v.o,v.e))
 |[],[],_,_,_=>by simp[zB]
 |[],_::_,_,_,h=>by simp at h
 |_::_,[],_,_,h=>by simp at h
 |v::l,u::us,hI,hj,hl=>by
  have h0:=hj 0 (by simp) (by simp);simp only[List.getElem_cons_zero] at h0;obtain⟨h1,h2,h3⟩:=zpx (l:=l) (us:=us) hI.cons (fun j a b=>by have:=hj (j+1) (by simpa using a) (by simpa using b);simpa using this) (by simpa using hl);have hv:=hI.m v (by simp);refine⟨fun x hx=> ?_,?_,?_⟩
  ·rw[zxl] at hx;rcases zuO.1 hx with rfl|hx
   ·have:=hv.2;simp[za] at this;exact⟨by show 0≤v.n-u;omega,zvz (by show -100000000000≤v.n-u∧v.n-u≤100000000000;omega)⟩
   ·exact h1 x hx
  ·have e1:zB (List.zipWith Yc (v::l) (u::us))=(v.n-u)+zB (List.zipWith Yc l us):=by simp[zB,Yc]
   have e2:zB (v::l)=v.n+zB l:=by simp[zB]
   rw[e1,e2];omega
  ·simp[Yc,h3]
theorem zlx(l:List Vi):zB (l.filter fun v=> !(v.n==0))=zB l:=by
 induction l with
 |nil=>rfl
 |cons x l ih=>
  by_cases h:x.n=0
  ·rw[List.filter_cons_of_neg (by simp[h]),ih];simp[zB,h]
  ·rw[List.filter_cons_of_pos (by simp[h])];simp only[zB,zuS,zwh] at ih⊢;rw[ih]
theorem zoG{l:List Vi}{us:List Int}(hI:LosI l)(hj:∀j (h1:j<us.length) (h2:j<l.length),0≤us[j]∧us[j]≤l[j].n)(hl:us.length=l.length):LosI (za5 l us):=by
 rw[zbJ];obtain⟨h1,h2,h3⟩:=zpx hI hj hl;have hz:=JV h1;have ht:=hI.t;refine⟨?_,fun v hv=>h1 v (zvD.1 hv).1,?_,?_⟩
 ·have a:=zv0 (fun v:Vi=> !(v.n==0)) (List.zipWith Yc l us);have b:=hI.len;rw[List.length_zipWith] at a;omega
 ·rw[zlx];simp[za] at ht⊢;omega
 ·exact yW.2 ((ze0 h3 (yW.1 hI.d)).sublist zv9)
theorem zkV{l:List Vi}(hI:LosI l)(book perm moved cap life year r:Int){res:Res}{left:List Vi}(h:Zz l book perm moved cap life year r=(0,res,left)):LosI left:=by
 unfold Zz at h;split at h
 ·simp at h
 split at h
 ·simp at h
 rename_i k1 k2;have hk:=hI.kept year;have hnm:za (book+perm-moved)=true:=by simp[Jt,Ju] at k2;rw[zxg,zxJ];exact k2.2.2.2.2
 generalize book+perm-moved=n at *;simp only at h;split at h
 ·simp only[zux,true_and] at h;rw[←h.2];have hr:=Qf n cap hnm;exact zoG hk (zgL year _ _ hr.1 fun v hv=>(hk.m v hv).1) (YR _ _ _)
 split at h
 ·split at h
  ·rename_i k3;simp only[zux,true_and] at h;rw[←h.2];exact zpK hk k3
  ·rename_i k3;simp at h;exact absurd h.1 k3
 ·simp only[zux,true_and] at h;rw[←h.2];exact hk
def JY(l:List Wa):Int:=l.foldl (fun n r=>wr (n+r.m)) 0
theorem zl0{g:XH}{u v:XV}{o c:List Bu}(hu:RdX g 261 3 z8 u o)(hv:RdX g 261 3 z8 v c)(ho:o.length≤400)(hc:c.length≤400):
 Cl C (fun _=>False) 219 [.s u,.s v] g fun u g'=>u=fi (JY (zw o c))∧g'=g:=by
 refine Cl.ip rfl (zuv rfl) fun Ψ hΨ=> ?_;simp;refine zb.go0 (Qe hu hv ho hc) ?_;have hwl:=Zv o c;generalize zw o c=l at *;simp;refine Lp.foldU l (fun k (s:Int)=>[(5,fi s),(12,fi k)]) (fun _ _=>g) (fun n r=>wr (n+r.m)) 0 (by decide) rfl (by simp) rfl ?_ ?_
 ·rintro q hq s hs hlt N hN;obtain⟨a1,a2,_⟩:=atX yl hq;simp[l219_0,hq,a1,a2,jF,yE hq (by omega)];exact Y9 hN (by simp) (by simp)
 ·rintro s rfl;simp[l219_0];exact Gh.here (hΨ _ _ ⟨rfl,rfl⟩)
noncomputable def jm(t:List Rw)(inp:Inp)(op:Bal)(l:List Vi)(rows:List Bu):Int×Pro×List Vi:=
 if¬zn inp.p=true∨¬zm inp.judge=true∨¬za inp.up=true then(1,zr,[])
 else match jo t inp.j (inp.p.tdiv 4) inp.p with
  |none=>(7,zr,[])
  |some r=>
   if(yU t inp.j inp.p).2≠0 then(7,zr,[])
   else match zV t inp.j inp.p (rows.map (·.y)) with
    |none=>(7,zr,[])
    |some rates=>
     let next:=(yU t inp.j inp.p).1
     let ways:=zw op.b rows;let tx:=Zz l inp.book inp.perm (JY ways) inp.cap inp.life (inp.p.tdiv 4) r
     if tx.1≠0 then(tx.1,zr,[])
     else
      let left:=zB tx.2.2
      if(jL rows rates).2≠0 then((jL rows rates).2,zr,[])
      else if(zl left next).2≠0 then((zl left next).2,zr,[])
      else if(jY (zl left next).1 inp.judge).2≠0 then((jY (zl left next).1 inp.judge).2,zr,[])
      else match zV t inp.j inp.p (ways.map (·.y)) with
       |none=>(7,zr,[])
       |some now=>
        let ch:=JL ways (yI op ways now) now
        if ch.2.2≠0 then(ch.2.2,zr,[])
        else
         let cl:Bal:=⟨inp.p,rows,rates,next,left,(jL rows rates).1,(zl left next).1,(jY (zl left next).1 inp.judge).1⟩
         let c:=yQ op cl tx.2.1.tax inp.up ch.1 ch.2.1
         if(Jm op cl tx.2.1.tax inp.up ch.1 ch.2.1).all za then(0,⟨inp,r,op,cl,tx.2.1,ways,now,ch.1,ch.2.1,c.lm,c.lr,c.am,c.de,c.tot⟩,tx.2.2) else(6,zr,[])
def zkt(x:Int×Pro×List Vi):XF:= .tup [.agg (zF x.2.1),.s (if x.1=0 then lpV x.2.2 else .v .nilp),fi x.1]
def YS:List XV:=[xs ⟨#[]⟩,xi 0,xi 0,xi 0,xi 0,xi 0,xi 0,xi 0,xi 0]++([xi 0,.v .nils,.v .nils,xi 0,xi 0,xi 0,xi 0,xi 0]++([xi 0,.v .nils,.v .nils,xi 0,xi 0,xi 0,xi 0,xi 0]++([xi 0,xi 0,xi 0,xi 0,xi 0,xi 0,.v .nils]++[.v .nils,.v .nils,xi 0,xi 0,xi 0,xi 0,xi 0,xi 0,xi 0])))
abbrev mkG(g:XH)(a:Nat)(inp:Inp)(op:Bal)(cur:Res)(s:List XV):XH:=g++[.own 0 62 1 [.ptr a 0 0],.own 0 74 8 (zR inp),.own 0 77 8 (zi op),.own 0 84 41 YS,.own 0 84 41 s,.own 0 300 1 [.ptr (g.length+4) 0 0],.own 0 79 7 (zG cur),.clo 222 [.s (.ptr (g.length+4) 0 0)] [],.clo 223 [] [.s (.ptr (g.length+5) 0 0),.s (.ptr g.length 0 0)],.clo 225 [.s (.ptr (g.length+4) 0 0)] [],.own 0 109 1 [.cl (g.length+7),.cl (g.length+8),.cl (g.length+9)]]
def mkS(t:List Rw)(inp:Inp)(op:Bal)(rows:List Bu)(rates:List Int)(r next lf:Int)(cur:Res):Nat→List XV→Prop
 |0,s=>s=pC inp (xi r) (zi op) (zi ⟨inp.p,rows,rates,next,lf,0,0,0⟩) (zG cur) [.v .nils,.v .nils,xi 0,xi 0,xi 0,xi 0,xi 0,xi 0,xi 0]
 |1,s=>∃tm ls al,za9 rows rates next lf inp.judge tm ls al∧s=pC inp (xi r) (zi op) (zi ⟨inp.p,rows,rates,next,lf,tm,ls,al⟩) (zG cur) [.v .nils,.v .nils,xi 0,xi 0,xi 0,xi 0,xi 0,xi 0,xi 0]
 |2,s=>∃tm ls al now cm cr,za9 rows rates next lf inp.judge tm ls al∧zka t inp op (zw op.b rows) now cm cr∧s=pC inp (xi r) (zi op) (zi ⟨inp.p,rows,rates,next,lf,tm,ls,al⟩) (zG cur) [zhy (zw op.b rows),Yv now,xi cm,xi cr,xi 0,xi 0,xi 0,xi 0,xi 0]
 |_,s=>∃tm ls al now cm cr,za9 rows rates next lf inp.judge tm ls al∧zka t inp op (zw op.b rows) now cm cr∧(Jm op ⟨inp.p,rows,rates,next,lf,tm,ls,al⟩ cur.tax inp.up cm cr).all za=true∧∃c,c=yQ op ⟨inp.p,rows,rates,next,lf,tm,ls,al⟩ cur.tax inp.up cm cr∧s=zF ⟨inp,r,op,⟨inp.p,rows,rates,next,lf,tm,ls,al⟩,cur,zw op.b rows,now,cm,cr,c.lm,c.lr,c.am,c.de,c.tot⟩
theorem zke{n0:Nat}{J:XH}{K:List (Option Nat)}{O:XH}:FzVs n0 J K O YS (zF zr):=by
 have l0:∀n,lvV n0 (xi n):=fun n=>by simp
 have ls:lvV n0 (xs ⟨#[]⟩):=by simp
 exact .cons (.lt ls) (.cons (.lt (l0 _)) (.cons (.lt (l0 _)) (.cons (.lt (l0 _)) (.cons (.lt (l0 _)) (.cons (.lt (l0 _)) (.cons (.lt (l0 _)) (.cons (.lt (l0 _)) (.cons (.lt (l0 _))
  (.cons (.lt (l0 _)) (.cons .nil (.cons .nil (.cons (.lt (l0 _)) (.cons (.lt (l0 _)) (.cons (.lt (l0 _)) (.cons (.lt (l0 _)) (.cons (.lt (l0 _))
  (.cons (.lt (l0 _)) (.cons .nil (.cons .nil (.cons (.lt (l0 _)) (.cons (.lt (l0 _)) (.cons (.lt (l0 _)) (.cons (.lt (l0 _)) (.cons (.lt (l0 _))
  (.cons (.lt (l0 _)) (.cons (.lt (l0 _)) (.cons (.lt (l0 _)) (.cons (.lt (l0 _)) (.cons (.lt (l0 _)) (.cons (.lt (l0 _)) (.cons .nil
  (.cons .nil (.cons .nil (.cons (.lt (l0 _)) (.cons (.lt (l0 _)) (.cons (.lt (l0 _)) (.cons (.lt (l0 _)) (.cons (.lt (l0 _)) (.cons (.lt (l0 _)) (.cons (.lt (l0 _)) .nil))))))))))))))))))))))))))))))))))))))))
theorem znF(g:XH)(l:List Vi):zfp g (lpV l) l:=⟨_,.inl rfl,RdX.lst g l⟩
theorem YB.app{g J:XH}{i:Nat}{l:List Bu}(h:YB g i l):YB (g++J) i l:=by unfold YB at h⊢;rw[zq (ze h)];exact h
noncomputable def Jv(t:List Rw)(inp:Inp)(op:Bal)(rows:List Bu)(rates:List Int)(r next lf:Int)(cur:Res)(left:List Vi):Int×Pro×List Vi:=
 if(jL rows rates).2≠0 then((jL rows rates).2,zr,[])
 else if(zl lf next).2≠0 then((zl lf next).2,zr,[])
 else if(jY (zl lf next).1 inp.judge).2≠0 then((jY (zl lf next).1 inp.judge).2,zr,[])
 else match zV t inp.j inp.p ((zw op.b rows).map (·.y)) with
  |none=>(7,zr,[])
  |some now=>
   let ch:=JL (zw op.b rows) (yI op (zw op.b rows) now) now
   if ch.2.2≠0 then(ch.2.2,zr,[])
   else
    let cl:Bal:=⟨inp.p,rows,rates,next,lf,(jL rows rates).1,(zl lf next).1,(jY (zl lf next).1 inp.judge).1⟩
    let c:=yQ op cl cur.tax inp.up ch.1 ch.2.1
    if(Jm op cl cur.tax inp.up ch.1 ch.2.1).all za then(0,⟨inp,r,op,cl,cur,zw op.b rows,now,ch.1,ch.2.1,c.lm,c.lr,c.am,c.de,c.tot⟩,left) else(6,zr,[])
theorem zjh{g:XH}{a:Nat}{inp:Inp}{op:Bal}{cur:Res}{s:List XV}:(mkG g a inp op cur s)[g.length+4]? =some (.own 0 84 41 s):=by simp
theorem zku{g:XH}{a:Nat}{inp:Inp}{op:Bal}{cur:Res}{s s':List XV}:(mkG g a inp op cur s).set (g.length+4) (.own 0 84 41 s')=mkG g a inp op cur s':=by simp
theorem zqE{g:XH}{a:Nat}{inp:Inp}{op:Bal}{cur:Res}{s s':List XV}(ha:a<g.length)(h:zu g.length s'):Old (mkG g a inp op cur s').length (mkG g a inp op cur s) (mkG g a inp op cur s'):=by
 refine .loc fun o ho=> ?_;have h1:zu (g.length+11) s':=zu.mono (by omega) _ h;have h2:a<g.length+11:=by omega
 have h3:(mkG g a inp op cur s').length=g.length+11:=by simp
 rw[h3];simp only[zuO,zvT,or_false] at ho;rcases ho with rfl|rfl|rfl|rfl|rfl|rfl|rfl|rfl|rfl|rfl|rfl
 all_goals first|(simp[lvO,h1,h2];done)|(simp[lvO,YS];done)
theorem zpQ{t:List Rw}{inp:Inp}{op:Bal}{rows:List Bu}{rates:List Int}{r next lf:Int}{cur:Res}{left:List Vi}{e:Int}(he:e≠0)(h:(jL rows rates).2=e∨((jL rows rates).2=0∧(zl lf next).2=e)∨((jL rows rates).2=0∧(zl lf next).2=0∧(jY (zl lf next).1 inp.judge).2=e)):Jv t inp op rows rates r next lf cur left=(e,zr,[]):=by
 unfold Jv;rcases h with h|⟨h1,h⟩|⟨h1,h2,h⟩
 ·rw[zuF (by rw[h];exact he),h]
 ·rw[zuH (by simp[h1]),zuF (by rw[h];exact he),h]
 ·rw[zuH (by simp[h1]),zuH (by simp[h2]),zuF (by rw[h];exact he),h]
theorem zpU{t:List Rw}{inp:Inp}{op:Bal}{rows:List Bu}{rates:List Int}{r next lf:Int}{cur:Res}{left:List Vi}{tm ls al e:Int}(hb:za9 rows rates next lf inp.judge tm ls al)(h:zmX t inp op (zw op.b rows) e):e≠0∧Jv t inp op rows rates r next lf cur left=(e,zr,[]):=by
 obtain⟨h1,h2,h3⟩:=hb;unfold Jv;simp only[h1,h2,h3,ne_eq,not_true_eq_false,if_false];rcases h with⟨h,rfl⟩|⟨now,h,h4,h5⟩
 ·rw[h];exact⟨by decide,rfl⟩
 ·rw[h];simp only[h4,h5,not_false_eq_true,if_true];exact⟨trivial,trivial⟩
theorem zeu{t:List Rw}{inp:Inp}{op:Bal}{rows:List Bu}{rates:List Int}{r next lf:Int}{cur:Res}{left:List Vi}{tm ls al:Int}{now:List Int}{cm cr:Int}(hb:za9 rows rates next lf inp.judge tm ls al)(h:zka t inp op (zw op.b rows) now cm cr):Jv t inp op rows rates r next lf cur left=
 let cl:Bal:=⟨inp.p,rows,rates,next,lf,tm,ls,al⟩
 let c:=yQ op cl cur.tax inp.up cm cr
 if(Jm op cl cur.tax inp.up cm cr).all za then(0,⟨inp,r,op,cl,cur,zw op.b rows,now,cm,cr,c.lm,c.lr,c.am,c.de,c.tot⟩,left) else(6,zr,[]):=by
 obtain⟨h1,h2,h3⟩:=hb;obtain⟨h4,h5⟩:=h;unfold Jv;simp only[h1,h2,h3,h4,h5,ne_eq,not_true_eq_false,if_false]
theorem zqF{g:XH}{a:Nat}{t:List Rw}{inp:Inp}{op:Bal}{rows:List Bu}(hrl:rows.length≤400){rates:List Int}{r next lf:Int}{cur:Res}{left:List Vi}{s:List XV}(hs:mkS t inp op rows rates r next lf cur 0 s):
 Cl C (fun x=>x=g.length+4) 222 [.s (.ptr (g.length+4) 0 0)] (mkG g a inp op cur s) fun v g'=>(∃s',mkS t inp op rows rates r next lf cur 1 s'∧v=fi 0∧g'=mkG g a inp op cur s'∧zu g.length s')∨∃e X,e≠0∧Jv t inp op rows rates r next lf cur left=(e,zr,[])∧v=fi e∧g'=(mkG g a inp op cur s).set (g.length+4) X:=by
 have hs:s=_:=hs;refine(ztJ (i:=g.length+4) (inp:=inp) (r:=xi r) (o:=zi op) (u:=zG cur) (m:=[.v .nils,.v .nils,xi 0,xi 0,xi 0,xi 0,xi 0,xi 0,xi 0]) (p:=inp.p) (rows:=rows) (rates:=rates) (next:=next) (left:=lf) ⟨by rw[hs];exact zjh,rfl,rfl,rfl,rfl⟩ (by omega)).mono ?_;rintro v g' (⟨tm,ls,al,h1,rfl,rfl⟩|⟨e,X,he,rfl,rfl,h1⟩)
 ·exact .inl ⟨_,⟨tm,ls,al,h1,rfl⟩,rfl,zku,by simp[pC]⟩
 ·exact .inr ⟨e,X,he,zpQ he h1,rfl,rfl⟩
theorem zqH{g:XH}{a:Nat}{t:List Rw}{inp:Inp}{op:Bal}{rows:List Bu}{rates:List Int}{r next lf:Int}{cur:Res}{left:List Vi}{s:List XV}(hs:mkS t inp op rows rates r next lf cur 2 s):
 Cl C (fun x=>x=g.length+4) 225 [.s (.ptr (g.length+4) 0 0)] (mkG g a inp op cur s) fun v g'=>(∃s',mkS t inp op rows rates r next lf cur 3 s'∧v=fi 0∧g'=mkG g a inp op cur s'∧zu g.length s')∨∃e X,e≠0∧Jv t inp op rows rates r next lf cur left=(e,zr,[])∧v=fi e∧g'=(mkG g a inp op cur s).set (g.length+4) X:=by
 obtain⟨tm,ls,al,now,cm,cr,b1,b2,hs⟩:=hs;have hq:=zeu (t:=t) (inp:=inp) (op:=op) (rows:=rows) (rates:=rates) (r:=r) (next:=next) (lf:=lf) (cur:=cur) (left:=left) b1 b2;refine(zn7 (i:=g.length+4) (inp:=inp) (r:=xi r) (op:=op) (cl:=⟨inp.p,rows,rates,next,lf,tm,ls,al⟩) (cur:=cur) (tm:=cm) (tr:=cr) (ways:=zhy (zw op.b rows)) (now:=Yv now) (m4:=xi 0) (m5:=xi 0) (m6:=xi 0) (m7:=xi 0) (m8:=xi 0) ⟨by rw[hs];exact zjh,rfl,rfl,rfl,rfl⟩).mono ?_;rintro v g' ⟨rfl,rfl⟩;by_cases hc:(Jm op ⟨inp.p,rows,rates,next,lf,tm,ls,al⟩ cur.tax inp.up cm cr).all za=true
 ·rw[zuF hc];exact .inl ⟨_,⟨tm,ls,al,now,cm,cr,b1,b2,hc,_,rfl,rfl⟩,rfl,zku,Qw _ _⟩
 ·rw[zuH hc];simp only[zuH hc] at hq;exact .inr ⟨6,_,by decide,hq,rfl,rfl⟩
theorem zqG{g:XH}{a b:Nat}{t:List Rw}(ht:Ze 145 140 g a b t)(hl:t.length≤1000){inp:Inp}{op:Bal}(hop:BalL op){rows:List Bu}(hrl:rows.length≤400){rates:List Int}(hrr:rates.length≤400){r next lf:Int}{cur:Res}{left:List Vi}(hp:zn inp.p=true){s:List XV}(hs:mkS t inp op rows rates r next lf cur 1 s):
 Cl C (fun x=>x=g.length+4) 223 [.s (.ptr (g.length+5) 0 0),.s (.ptr g.length 0 0)] (mkG g a inp op cur s) fun v g'=>(∃s',mkS t inp op rows rates r next lf cur 2 s'∧v=fi 0∧g'=mkG g a inp op cur s'∧zu g.length s')∨∃e X,e≠0∧Jv t inp op rows rates r next lf cur left=(e,zr,[])∧v=fi e∧g'=(mkG g a inp op cur s).set (g.length+4) X:=by
 obtain⟨tm,ls,al,b1,hs⟩:=hs;have la:a<g.length:=by obtain⟨w,h1,_⟩:=ht;exact ze h1
 have lb:b<g.length:=by obtain⟨w,_,h1⟩:=ht;exact ze h1
 have hc:=ztK (g:=mkG g a inp op cur s) (i:=g.length+4) (inp:=inp) (r:=xi r) (op:=op) (cl:=⟨inp.p,rows,rates,next,lf,tm,ls,al⟩) (u:=zG cur) (m:=[.v .nils,.v .nils,xi 0,xi 0,xi 0,xi 0,xi 0,xi 0,xi 0]) ⟨by rw[hs];exact zjh,rfl,rfl,rfl,rfl⟩ hop ⟨hrl,hrr⟩ (a:=a) (b:=b) (t:=t) ht.app (by omega) (by omega) hl hp;refine Cl.ip rfl (zuv rfl) fun Ψ hΨ=> ?_;simp;refine zb.go hc (fun x hx e=> .inr e) ?_;rintro v g' (⟨now,cm,cr,b2,rfl,rfl⟩|⟨e,X,hb,rfl,rfl⟩)
 ·simp;refine Gh.here (hΨ _ _ (.inl ⟨_,⟨tm,ls,al,now,cm,cr,b1,b2,rfl⟩,rfl,by simp,by simp[pC]⟩))
 ·simp;obtain⟨he,h2⟩:=zpU (r:=r) (cur:=cur) (left:=left) b1 hb;refine Gh.here (hΨ _ _ (.inr ⟨e,X,he,h2,rfl,by simp⟩))
theorem YY(p:Pro):(zF p).length=41:=by simp[zF,pC,zR,zi,zG]
set_option maxRecDepth 8000 in
set_option maxHeartbeats 2000000 in
theorem zqV{g:XH}{a b ri:Nat}{t:List Rw}(ht:Ze 145 140 g a b t)(hl:t.length≤1000)(inp:Inp){op:Bal}(hop:BalL op){l:List Vi}(hI:LosI l){reg:List Bu}(hr:YB g ri reg)(hrl:reg.length≤400)(hd:jy ltB reg=true):
 Cl C (fun _=>False) 150 [.s (.ptr a 0 0),.agg (zR inp),.agg (zi op),.s (lpV l),.s (.ptr ri 0 0)] g fun u g'=>u=zkt (jm t inp op l (zt ltB reg))∧g'=g:=by
 refine Cl.lv fun hG=> ?_;refine Cl.ip rfl (zuv rfl) fun Ψ hΨ=> ?_;have bad:∀(e:Int) J,e≠0→jm t inp op l (zt ltB reg)=(e,zr,[])→Gh (fun _=>False) g Ψ (.tup [.agg YS,.s (.v .nilp),fi e]) (g++J):=fun e J he h=>
  Gh.pure (u':=zkt (e,zr,[])) (.cons (.agg zke) (.cons (.s (by rw[zuH he];exact .lt (by simp))) (.cons .i .nil))) (hΨ _ _ ⟨by rw[h],rfl⟩)
 simp[zR,zi];refine zb.pure (Zd ..) ?_;simp;refine zc (fun k1=> ?_) (fun k1=> ?_)
 rotate_left
 ·simp;exact bad 1 _ (by decide) (by unfold jm;rw[zuF (.inl (by simp[k1]))])
 simp;refine zb.pure (q8 ..) ?_;simp;refine zc (fun k2=> ?_) (fun k2=> ?_)
 rotate_left
 ·simp;exact bad 1 _ (by decide) (by unfold jm;rw[zuF (.inr (.inl (by simp[k2])))])
 simp;refine zb.pure (ya ..) ?_;simp;refine zc (fun k3=> ?_) (fun k3=> ?_)
 rotate_left
 ·simp;exact bad 1 _ (by decide) (by unfold jm;rw[zuF (.inr (.inr (by simp[k3])))])
 have k0:¬(¬zn inp.p=true∨¬zm inp.judge=true∨¬za inp.up=true):=by simp[k1,k2,k3]
 have e0:=Eq.refl (jm t inp op l (zt ltB reg))
 conv at e0=>rhs;unfold jm;rw[zuH k0]
 simp;refine zy 3 [6] (fun _=>False) (by decide) (by decide) ?_;simp only[zuU,zvt,zu4,zu2];simp;refine zb.go0 (zsA hop) ?_;simp[zi];refine zy 4 [5,13] (fun _=>False) (by decide) (by decide) ?_;simp only[zuU,zvt,zu4,zu2];simp;refine zb.go0 (zq3 hr.app (by omega) hd) ?_;have hrows:(zt ltB reg).length=reg.length:=zK ltB reg;rw[←hrows];generalize zt ltB reg=rows at *;simp;refine zb.go (zn8 (i:=g.length+4) (inp:=inp) (r:=xi 0) (o:=zi op) (c:=[xi 0,.v .nils,.v .nils,xi 0,xi 0,xi 0,xi 0,xi 0]) (u:=[xi 0,xi 0,xi 0,xi 0,xi 0,xi 0,.v .nils]) (m:=[.v .nils,.v .nils,xi 0,xi 0,xi 0,xi 0,xi 0,xi 0,xi 0]) ⟨by simp[pC,zR,zi],rfl,rfl,rfl,rfl⟩ ht.app hl (rows:=rows) (by omega) k1) (fun x hx e=>⟨.inl (by omega),.inr trivial⟩) ?_;rintro v g' (⟨r,next,rates,⟨q1,q2,q3⟩,rfl,rfl⟩|⟨rfl,rfl,q⟩)
 rotate_left
 ·simp;exact bad 7 _ (by decide) (by
   rw[e0];rcases q with q|q|q
   ·rw[q]
   ·cases jo t inp.j (inp.p.tdiv 4) inp.p with
    |none=>rfl
    |some r=>simp only[q,ne_eq,not_false_eq_true,if_true]
   ·cases jo t inp.j (inp.p.tdiv 4) inp.p with
    |none=>rfl
    |some r=>simp only[q,ite_self])
 rw[q1] at e0;simp only[q2,q3,ne_eq,not_true_eq_false,if_false] at e0;simp[pC,zR,zi];refine zb.go0 (zl0 (RdX.lst _ op.b) (RdX.lst _ rows) hop.lb (by omega)) ?_;have hwl:=Zv op.b rows;have hol:=hop.lb;simp;refine zy 17 [6,13] (fun _=>False) (by decide) (by decide) ?_;simp only[zuU,zvt,zu4,zu2];simp;refine zb.pure (zk1 ..) ?_;have hy:Yp inp.p=inp.p.tdiv 4:=by unfold Yp;rw[zuF k1]
 rw[hy];simp;refine zb.go0 (zsR (znF _ l) hI inp.book inp.perm (JY (zw op.b rows)) inp.cap inp.life (inp.p.tdiv 4) r) ?_;have htx:=fun res left=>zkV hI inp.book inp.perm (JY (zw op.b rows)) inp.cap inp.life (inp.p.tdiv 4) r (res:=res) (left:=left);generalize Zz l inp.book inp.perm (JY (zw op.b rows)) inp.cap inp.life (inp.p.tdiv 4) r=tx at *;obtain⟨e,cur,left⟩:=tx;by_cases he:e=0
 rotate_left
 ·simp only[he,not_false_eq_true,if_true] at e0;rw[show zjP (e,cur,left)= .tup [.agg (zG qH),.s (.v .nilp),fi e] by simp[zjP,he]];simp[zG,qH,show(e !=0)=true by simpa using he];exact bad e _ he e0
 subst he;have hIl:=htx cur left rfl;have hll:=hIl.len;clear htx;simp only[not_true_eq_false,if_false] at e0;rw[show zjP (0,cur,left)= .tup [.agg (zG cur),.s (lpV left),fi 0] by simp[zjP]];simp[zG];refine zc4 3 8 [13,16] (fun x=>x=g.length+4) (by decide) (by decide) (by decide) ?_;simp only[zuU,zvt,zu4,zu2];simp;refine zb.go0 (zkp (znF _ left) (by omega) (fun v hv=>(hIl.m v hv).2)) ?_;simp;refine Lp.genU (σ:=List XV) 3 (fun k _=>[(107,fi k)]) (fun _ s=>mkG g a inp op cur s) (mkS t inp op rows rates r next (zB left) cur) (pC inp (xi r) (zi op) (zi ⟨inp.p,rows,rates,next,zB left,0,0,0⟩) (zG cur) [.v .nils,.v .nils,xi 0,xi 0,xi 0,xi 0,xi 0,xi 0,xi 0]) (by decide) rfl (by simp) rfl rfl ?_ ?_
 ·rintro q hq s hs hlt N hN;have la:a<g.length:=by
   obtain⟨w,h1,_⟩:=ht;exact ze h1
  have hrr:rates.length≤400:=by have:=ZS _ _ _ _ _ q3;rw[zuY] at this;omega
  have step:∀(f:Nat) (args:List XF),Cl C (fun x=>x=g.length+4) f args (mkG g a inp op cur s) (fun v g'=>(∃s',mkS t inp op rows rates r next (zB left) cur (q+1) s'∧v=fi 0∧g'=mkG g a inp op cur s'∧zu g.length s')∨∃e X,e≠0∧Jv t inp op rows rates r next (zB left) cur left=(e,zr,[])∧v=fi e∧g'=(mkG g a inp op cur s).set (g.length+4) X)→∀K:XF→XH→Prop,(∀s',mkS t inp op rows rates r next (zB left) cur (q+1) s'→zu g.length s'→K (fi 0) (mkG g a inp op cur s'))→(∀e X,e≠0→Jv t inp op rows rates r next (zB left) cur left=(e,zr,[])→K (fi e) ((mkG g a inp op cur s).set (g.length+4) X))→xCX C (fun i=>g.length≤i∨False) f args (mkG g a inp op cur s) K .mk:=by
   intro f args hc K h1 h2;refine zb.go hc (fun x hx e=> .inl (by omega)) ?_;rintro v g' (⟨s',k1,rfl,rfl,k2⟩|⟨e,J,k1,k2,rfl,rfl⟩)
   ·exact h1 s' k1 k2
   ·exact h2 e J k1 k2
  have hz:YS.length=41:=rfl;have hS:∀X,X.length=41→setX YS 0 X=X:=fun X h=>ZU (by rw[h,hz]);have go:∀s' fr,mkS t inp op rows rates r next (zB left) cur (q+1) s'→zu g.length s'→fr=qk [(10,some (.s (.ptr (g.length+3) 0 0))),(13,some (.s (.ptr (g.length+5) 0 0))),(17,some (.s (lpV left))),(105,some (.s (.sl (g.length+10) 0 0 3))),(106,some (fi 3)),(107,some (fi 0))] [(107,fi ((q+1:Nat):Int))]→N fr (mkG g a inp op cur s'):=fun s' fr h1 h2 hf=>
   hN s' _ _ h1 ⟨hf,⟨[],by simp⟩,by simp,by simp,zqE la h2⟩
  have fail:∀e J,e≠0→Jv t inp op rows rates r next (zB left) cur left=(e,zr,[])→Gh (fun _=>False) g Ψ (.tup [.agg YS,.s (.v .nilp),fi e]) (g++J):=fun e J k1 k2=>bad e J k1 (e0.trans k2)
  clear hN bad hΨ e0 hG;obtain rfl|rfl|rfl:q=0∨q=1∨q=2:=by omega
  ·have h0:=zqF (g:=g) (a:=a) (t:=t) (inp:=inp) (op:=op) (rows:=rows) (rates:=rates) (r:=r) (next:=next) (lf:=zB left) (cur:=cur) (left:=left) (s:=s) (by omega) hs;simp[l150_0];refine step _ _ h0 _ (fun s' h1 h2=> ?_) (fun e X k1 k2=> ?_)
   ·simp[show IntKind.i64.wrap 1=1 from rfl,show IntKind.i64.wrap 2=2 from rfl,show IntKind.i64.wrap 3=3 from rfl];exact go s' _ h1 h2 (by simp)
   ·simp[show(e !=0)=true by simpa using k1,YS];exact fail e _ k1 k2
  ·have h0:=zqG (g:=g) (a:=a) (t:=t) (inp:=inp) (op:=op) (rows:=rows) (rates:=rates) (r:=r) (next:=next) (lf:=zB left) (cur:=cur) (left:=left) (s:=s) ht hl hop (by omega) hrr (by assumption) hs;simp[l150_0];refine step _ _ h0 _ (fun s' h1 h2=> ?_) (fun e X k1 k2=> ?_)
   ·simp[show IntKind.i64.wrap 1=1 from rfl,show IntKind.i64.wrap 2=2 from rfl,show IntKind.i64.wrap 3=3 from rfl];exact go s' _ h1 h2 (by simp)
   ·simp[show(e !=0)=true by simpa using k1,YS];exact fail e _ k1 k2
  ·have h0:=zqH (g:=g) (a:=a) (t:=t) (inp:=inp) (op:=op) (rows:=rows) (rates:=rates) (r:=r) (next:=next) (lf:=zB left) (cur:=cur) (left:=left) (s:=s) hs;simp[l150_0];refine step _ _ h0 _ (fun s' h1 h2=> ?_) (fun e X k1 k2=> ?_)
   ·simp[show IntKind.i64.wrap 1=1 from rfl,show IntKind.i64.wrap 2=2 from rfl,show IntKind.i64.wrap 3=3 from rfl];exact go s' _ h1 h2 (by simp)
   ·simp[show(e !=0)=true by simpa using k1,YS];exact fail e _ k1 k2
 ·rintro s ⟨tm,ls,al,now,cm,cr,b1,b2,b3,c,rfl,rfl⟩;have hq:=zeu (t:=t) (inp:=inp) (op:=op) (rows:=rows) (rates:=rates) (r:=r) (next:=next) (lf:=zB left) (cur:=cur) (left:=left) b1 b2;simp only[b3,if_true] at hq;generalize hP:(⟨inp,r,op,⟨inp.p,rows,rates,next,zB left,tm,ls,al⟩,cur,zw op.b rows,now,cm,cr,(yQ op ⟨inp.p,rows,rates,next,zB left,tm,ls,al⟩ cur.tax inp.up cm cr).lm,(yQ op ⟨inp.p,rows,rates,next,zB left,tm,ls,al⟩ cur.tax inp.up cm cr).lr,(yQ op ⟨inp.p,rows,rates,next,zB left,tm,ls,al⟩ cur.tax inp.up cm cr).am,(yQ op ⟨inp.p,rows,rates,next,zB left,tm,ls,al⟩ cur.tax inp.up cm cr).de,(yQ op ⟨inp.p,rows,rates,next,zB left,tm,ls,al⟩ cur.tax inp.up cm cr).tot⟩:Pro)=P at *;clear hP;have hE:=YY P;have hT:List.take 41 (zF P)=zF P:=zvq (by omega);have hz:YS.length=41:=rfl;have hS:setX YS 0 (zF P)=zF P:=ZU (by rw[hE,hz]);have hlE:=Qw g.length P;have he2:=e0.trans (show _=(0,P,left) from hq);generalize hEE:zF P=E at *;simp[l150_0,hE,hT,hz,hS];subst hEE;exact Gh.pure (u':=zkt (0,P,left)) (.cons (.agg (.lts hlE)) (.cons (.s (by rw[zuF rfl];exact .lt (by simp))) (.cons .i .nil))) (hΨ _ _ ⟨by rw[he2],rfl⟩)
end
end Go.Proofs.YtdmcfjkgopmlgaaGreatDoor.Ev.CA

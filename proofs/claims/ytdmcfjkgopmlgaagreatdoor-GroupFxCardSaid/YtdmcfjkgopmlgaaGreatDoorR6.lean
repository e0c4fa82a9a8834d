import Derived.Test.YtdmcfjkgopmlgaaGreatDoorR5
set_option linter.unusedVariables false
set_option linter.unusedSimpArgs false
set_option linter.unusedSectionVars false
namespace Go.Proofs.YtdmcfjkgopmlgaaGreatDoor.Ev.CA
open Go
def za(n:Int):Bool:=decide (-100000000000≤n∧n≤100000000000)
def zn(n:Int):Bool:=decide (0≤n∧n≤1000000)
def zm(n:Int):Bool:=decide (0≤n∧n≤399)
def y5(n:Int):Bool:=decide (0≤n∧n≤99)
def zlS(n:Int):Prop:= -9223372036854775808≤n∧n<9223372036854775808
theorem zgW{n:Int}(hn:zlS n)(d:Int)(hd:1<d):IntKind.i64.wrap (n.tdiv d)=n.tdiv d:=by
 have a1:(n.tdiv d).natAbs≤n.natAbs:=by rw[Int.natAbs_tdiv];exact Nat.div_le_self _ _
 have a2:n.natAbs≤9223372036854775808:=by unfold zlS at hn;omega
 by_cases e:n= -9223372036854775808
 ·have:(n.tdiv d).natAbs<9223372036854775808:=by
   rw[Int.natAbs_tdiv]
   exact Nat.div_lt_of_lt_mul (by have:n.natAbs=9223372036854775808:=by omega
                                  rw[this];omega)
  exact ze (by omega) (by omega)
 ·have:n.natAbs<9223372036854775808:=by unfold zlS at hn;omega
  exact ze (by omega) (by omega)
def qp(n r:Int):Prop:= -400000000000≤n∧n≤400000000000∧0≤r∧r≤10000000
instance (n r:Int):Decidable (qp n r):=by unfold qp;infer_instance
def ofF(n r:Int):Int:=if n<0 then(2*n*r-1000000).tdiv 2000000 else(2*n*r+1000000).tdiv 2000000
theorem ZQ{n r N R:Int}(hN: -N≤n∧n≤N)(hR:0≤r∧r≤R)(h0:0≤N): -(N*R)≤n*r∧n*r≤N*R:=by have a:n*r≤N*r:=zxt hN.2 hR.1;have b:N*r≤N*R:=zwE hR.2 h0;have c: -N*r≤n*r:=zxt hN.1 hR.1;rw[Int.neg_mul] at c;omega
theorem zkK{n r:Int}(hn:0≤n)(hr:0≤r):ofF n r=if 1000000≤2*((n*r)%1000000) then n*r/1000000+1 else n*r/1000000:=by unfold ofF;have hx:0≤n*r:=zxd hn hr;have e:2*n*r=2*(n*r):=Int.mul_assoc _ _ _;rw[zuQ (by omega),e];generalize n*r=x at hx;rw[zv4 (by omega)];split<;>omega
theorem zkJ{n r:Int}(hn:n<0):ofF n r= -ofF (-n) r:=by
 unfold ofF;rw[zuO hn,zuQ (by omega)];have e:2*n*r-1000000= -(2* -n*r+1000000):=by rw[Int.mul_neg,Int.neg_mul];omega
 rw[e,Int.neg_tdiv]
def zd(n r:Int):Int:=if qp n r then ofF n r else 0
theorem zB(n r:Int): -4000000000001≤zd n r∧zd n r≤4000000000001:=by
 unfold zd;split
 ·rename_i hk;unfold qp at hk;have b:=ZQ (n:=n) (r:=r) (N:=400000000000) (R:=10000000) (by omega) (by omega) (by omega);have e:2*n*r=2*(n*r):=Int.mul_assoc _ _ _;unfold ofF;rw[e];generalize n*r=x at b;split
  ·have h:=zxu (2*x-1000000) 2000000;have h1:=zxK (2*x-1000000) (show(0:Int)<2000000 by omega);have h2:=zxI (2*x-1000000) (show(0:Int)<2000000 by omega);generalize(2*x-1000000).tdiv 2000000=q at *;generalize(2*x-1000000).tmod 2000000=m at *;omega
  ·have h:=zxu (2*x+1000000) 2000000;have h1:=zxK (2*x+1000000) (show(0:Int)<2000000 by omega);have h2:=zxI (2*x+1000000) (show(0:Int)<2000000 by omega);generalize(2*x+1000000).tdiv 2000000=q at *;generalize(2*x+1000000).tmod 2000000=m at *;omega
 ·omega
theorem Qe{n r:Int}(hn: -100000000000≤n∧n≤100000000000)(hr:0≤r∧r≤1000000): -100000000000≤zd n r∧zd n r≤100000000000:=by
 have key:∀n:Int,0≤n→n≤100000000000→0≤ofF n r∧ofF n r≤100000000000:=by intro n h0 h1;rw[zkK h0 hr.1];have b:=ZQ (n:=n) (r:=r) (N:=100000000000) (R:=1000000) (by omega) hr (by omega);have b0:0≤n*r:=zxd h0 hr.1;generalize n*r=x at *;split<;>omega
 unfold zd;rw[zuO (by unfold qp;omega)];by_cases h0:0≤n
 ·have:=key n h0 hn.2;omega
 ·have:=key (-n) (by omega) (by omega);rw[zkJ (by omega)];omega
theorem zh6{n r:Int}(hn:0≤n):0≤zd n r:=by
 unfold zd;split
 ·rename_i hk;unfold qp at hk;rw[zkK hn (by omega)];have:=zxd hn hk.2.2.1;generalize n*r=x at *;split<;>omega
 ·omega
theorem zj5{n:Int}(h:za n=true):IntKind.i64.wrap n=n:=by simp[za] at h;exact ze (by omega) (by omega)
theorem zmD(n r:Int):IntKind.i64.wrap (zd n r)=zd n r:=by have:=zB n r;exact ze (by omega) (by omega)
theorem zbU{α:Type}(f:α→Int)(B:Int)(hB:0≤B):∀(l:List α),(∀a∈l,-B≤f a∧f a≤B)→-(B*l.length)≤(l.map f).sum∧(l.map f).sum≤B*l.length
 |[],_=>by simp
 |a::l,h=>by have ih:=zbU f B hB l fun x hx=>h x (by simp[hx]);have h0:=h a (by simp);simp only[zu2,zwm,zvr,zwu,zw4];omega
theorem QE{α:Type}(f:α→Int)(l:List α)(s:Int):l.foldl (fun s a=>s+f a) s=s+(l.map f).sum:=by
 induction l generalizing s with
 |nil=>simp
 |cons a l ih=>simp[ih];omega
structure Rw where
 j:ByteArray
 y:Int
 r:Int
 p:Int
structure Bu where
 c:Int
 y:Int
 n:Int
structure Vi where
 o:Int
 e:Int
 n:Int
structure Pa where
 s:ByteArray
 b:ByteArray
 n:Int
structure Li where
 a:Int
 n:Int
structure It where
 k:Int
 n:Int
structure Jo where
 seq:Int
 id:ByteArray
 p:Int
 kind:Int
 of:Int
 l:List Li
structure Bal where
 p:Int
 b:List Bu
 r:List Int
 next:Int
 left:Int
 temp:Int
 loss:Int
 allow:Int
structure Inp where
 j:ByteArray
 p:Int
 book:Int
 perm:Int
 judge:Int
 cap:Int
 life:Int
 up:Int
structure Res where
 income:Int
 expired:Int
 used:Int
 new:Int
 taxable:Int
 tax:Int
 vec:List Int
structure Wa where
 c:Int
 y:Int
 o:Int
 m:Int
 z:Int
structure Pro where
 inp:Inp
 rate:Int
 op:Bal
 cl:Bal
 cur:Res
 rows:List Wa
 now:List Int
 tm:Int
 tr:Int
 lm:Int
 lr:Int
 am:Int
 deferred:Int
 total:Int
def zax(b x:Rw):Bool:=decide (x.y >b.y)||(x.y==b.y&&decide (x.p >b.p))
def Q2(j:ByteArray)(y at':Int)(b:Option Rw)(x:Rw):Option Rw:=
 if x.j==j&&decide (x.p≤at')&&decide (x.y≤y) then match b with
  |none=>some x
  |some b=>if zax b x then some x else some b
 else b
def jb(t:List Rw)(j:ByteArray)(y at':Int):Option Int:=(t.foldl (Q2 j y at') none).map (·.r)
def zgL(j:ByteArray)(y p:Int)(x:Rw):Bool:=x.j==j&&(x.y==y&&x.p==p)
def JJ(t:List Rw)(j:ByteArray)(y r p:Int):Int×List Rw:=
 if j.size=0∨¬y5 y=true∨¬zn r=true∨¬zm p=true then(1,t)
 else if t.any (zgL j y p) then(4,t)
 else if 24≤t.length then(5,t)
 else(0,t++[⟨j,y,r,p⟩])
def yZ(t:List Rw)(j:ByteArray)(p:Int):Int×Int:=
 if zm p then match jb t j (min (p.tdiv 4+1) 99) p with
  |some r=>(r,0)
  |none=>(0,7)
 else(0,1)
def zO(t:List Rw)(j:ByteArray)(p:Int):List Int→Option (List Int)
 |[]=>some []
 |y::l=>match jb t j (max y (p.tdiv 4)) p with
  |some r=>(zO t j p l).map (r:: ·)
  |none=>none
def jm(c y:Int)(b:Bu):Bool:=b.c==c&&b.y==y
def getD(l:List Bu)(c y:Int):Int:=match l.find? (jm c y) with
 |some b=>b.n
 |none=>0
def yL(l:List Bu):Int:=(l.map (·.n)).sum
def ltB(a b:Bu):Bool:=decide (a.c<b.c)||(a.c==b.c&&decide (a.y<b.y))
def znI(b:Bu):List Bu→List Bu
 |[]=>[b]
 |x::r=>if ltB b x then b::x::r else x::znI b r
def zgM(l:List Bu)(c y n:Int):List Bu:=
 let m:=l.filter fun b=> !jm c y b
 if n=0 then m else znI ⟨c,y,n⟩ m
def yQ(c y:Int):Bool:=decide (1≤c∧c≤9)&&y5 y
def zdR(l:List Bu)(c y n:Int):Int×List Bu:=
 if¬yQ c y=true∨¬za n=true then(1,l)
 else if¬za (getD l c y+n)=true∨¬za (yL l+n)=true then(6,l)
 else let m:=zgM l c y (getD l c y+n)
  if 12<m.length then(5,l) else(0,m)
def za6(l:List Bu)(c y c2 y2 n:Int):Int×List Bu:=
 if¬yQ c y=true∨¬yQ c2 y2=true∨¬za n=true∨(c=c2∧y=y2) then(1,l)
 else if¬za (getD l c y-n)=true∨¬za (getD l c2 y2+n)=true then(6,l)
 else let m:=zgM (zgM l c y (getD l c y-n)) c2 y2 (getD l c2 y2+n)
  if 12<m.length then(5,l) else(0,m)
def zce:List (Int×Int):=(List.range 9).flatMap fun(c:Nat)=>(List.range 100).map fun(y:Nat)=>((c:Int)+1,(y:Int))
def zS(o c:List Bu):List Wa:=(zce.filter fun k=>getD o k.1 k.2 !=0||getD c k.1 k.2 !=0).map fun k=>⟨k.1,k.2,getD o k.1 k.2,getD c k.1 k.2-getD o k.1 k.2,getD c k.1 k.2⟩
def zx(l:List Vi):Int:=(l.map (·.n)).sum
def ltV(a b:Vi):Bool:=decide (a.e<b.e)||(a.e==b.e&&decide (a.o<b.o))
def znK(b:Vi):List Vi→List Vi
 |[]=>[b]
 |x::r=>if ltV b x then b::x::r else x::znK b r
def Yv(o e:Int)(v:Vi):Bool:=v.o==o&&v.e==e
def zdL(l:List Vi)(o e n:Int):Int×List Vi:=
 if¬y5 o=true∨e<o∨198<e∨n<1∨100000000000<n then(1,l)
 else if¬za (zx l+n)=true then(6,l)
 else if l.any (Yv o e) then(0,l.map fun v=>if Yv o e v then{v with n:=v.n+n} else v)
 else if 12≤l.length then(5,l)
 else(0,znK ⟨o,e,n⟩ l)
def zdz(l:List Vi)(y:Int):Int:=zx (l.filter fun v=>decide (v.e<y))
def Q0(l:List Vi)(y:Int):List Vi:=l.filter fun v=> !decide (v.e<y)
def zbj:List Vi→Int→Int→List Int
 |[],_,_=>[]
 |v::r,y,room=>let n:=if y≤v.e then min v.n (max room 0) else 0
  n::zbj r y (room-n)
def Q6(l:List Vi)(u:List Int):List Vi:=((l.zip u).map fun x=>{x.1 with n:=x.1.n-x.2}).filter fun v=>v.n !=0
def zjf(n r:Int):Int:=if 0≤n then(n*r).tdiv 1000000 else 0
def zcu(l:List Vi)(book perm moved cap life year r:Int):Int×Res×List Vi:=
 let none:Res:=⟨0,0,0,0,0,0,[]⟩
 if¬zn cap=true∨¬zn r=true∨¬y5 life=true∨¬y5 year=true then(1,none,l)
 else
  let n:=book+perm-moved
  if¬za book=true∨¬za perm=true∨¬za moved=true∨¬za n=true then(6,none,l)
  else
   let k:=Q0 l year;let gone:=zdz l year
   if 0<n then
    let v:=zbj k year (zjf n cap)
    (0,⟨n,gone,v.sum,0,n-v.sum,zd (n-v.sum) r,v⟩,Q6 k v)
   else if n<0 then
    match zdL k year (year+life) (-n) with
    |(0,k')=>(0,⟨n,gone,0,-n,0,zd 0 r,[]⟩,k')
    |(e,_)=>(e,none,l)
   else(0,⟨n,gone,0,0,0,zd 0 r,[]⟩,k)
def zk(n r:Int):Int×Int:=if 0≤n∧n≤100000000000∧zn r=true then(zd n r,0) else(0,1)
def jg:List Bu→List Int→Int
 |b::l,r::s=>jg l s-zd b.n r
 |_,_=>0
def zlc:Bal:=⟨0,[],[],0,0,0,0,0⟩
def yp:Bal:=⟨-1,[],[],0,0,0,0,0⟩
def zsd:Inp:=⟨⟨#[]⟩,0,0,0,0,0,0,0⟩
def qO:Res:=⟨0,0,0,0,0,0,[]⟩
def zr:Pro:=⟨zsd,0,zlc,zlc,qO,[],[],0,0,0,0,0,0,0⟩
def ZS:List Bu→List Int→Int→Int→Int→Int
 |b::l,r::s,c,y,now=>if jm c y b then r else ZS l s c y now
 |_,_,_,_,now=>now
def yy:List Wa→List Int→Int
 |w::l,r::s=>zd w.z r-zd w.o r+yy l s
 |_,_=>0
def yw:List Wa→List Int→List Int→Int
 |w::l,was::s,now::t=>zd w.o now-zd w.o was+yw l s t
 |_,_,_=>0
def yA(op:Bal):List Wa→List Int→List Int
 |w::l,n::s=>ZS op.b op.r w.c w.y n::yA op l s
 |_,_=>[]
def YJ(t:List Rw)(inp:Inp)(op:Bal)(l:List Vi)(reg:List Bu):Int×Pro×List Vi:=
 if¬zm inp.p=true∨¬zn inp.judge=true∨¬za inp.up=true then(1,zr,l)
 else
  let y:=inp.p.tdiv 4
  match jb t inp.j y inp.p with
  |none=>(7,zr,l)
  |some r=>
   match yZ t inp.j inp.p with
   |(next,0)=>
    match zO t inp.j inp.p (reg.map (·.y)) with
    |none=>(7,zr,l)
    |some rates=>
     let rows:=zS op.b reg
     match zcu l inp.book inp.perm ((rows.map (·.m)).sum) inp.cap inp.life y r with
     |(0,cur,left)=>
      let temp:=jg reg rates
      if¬za temp=true then(6,zr,l)
      else
       let lf:=zx left
       match zk lf next with
       |(loss,0)=>
        match zk loss inp.judge with
        |(al,0)=>
         match zO t inp.j inp.p (rows.map (·.y)) with
         |none=>(7,zr,l)
         |some now=>
          let olds:=yA op rows now;let tm:=yy rows now;let tr:=yw rows olds now
          if¬za tm=true∨¬za tr=true then(6,zr,l)
          else
           let lr:=zd op.left op.next-zd op.left next
           let lm:=op.loss-loss-lr;let am:=op.allow- -al;let de:=tm+tr+lm+lr+am;let tot:=cur.tax+de+inp.up;let p:Pro:=⟨inp,r,op,⟨inp.p,reg,rates,next,lf,temp,loss,-al⟩,cur,rows,now,tm,tr,lm,lr,am,de,tot⟩
           if[lm,lr,am,cur.tax+inp.up,temp-op.temp,loss-op.loss,-al-op.allow,de,tot].all za then(0,p,left) else(6,zr,l)
        |(_,e)=>(e,zr,l)
       |(_,e)=>(e,zr,l)
     |(e,_,_)=>(e,zr,l)
   |(_,e)=>(e,zr,l)
def yK(l:List Li)(a:Int):Int:=((l.filter fun x=>x.a==a).map (·.n)).sum
def jB(l:List Li):List Li:=((List.range 7).map fun(k:Nat)=>(⟨(k:Int)+1,yK l ((k:Int)+1)⟩:Li)).filter fun x=>x.n !=0
def yC(p:Pro):List Li:=jB [⟨1,p.cur.tax⟩,⟨7,p.inp.up⟩,⟨2,-p.cur.tax-p.inp.up⟩,⟨3,p.deferred⟩,⟨4,p.cl.temp-p.op.temp⟩,⟨5,p.cl.loss-p.op.loss⟩,⟨6,p.cl.allow-p.op.allow⟩]
def yO(l:List Li):List Li:=l.map fun x=>⟨x.a,-x.n⟩
def jC(rate:Int):List Wa→List Int→Int
 |w::l,r::s=>zd w.m r-zd w.m rate+jC rate l s
 |_,_=>0
def Zp(p:Pro):List It:=
 let n:=p.cur.used-p.cur.new;let l:List It:=[⟨1,zd p.inp.book p.rate⟩,⟨2,zd p.inp.perm p.rate⟩,⟨3,jC p.rate p.rows p.now+(zd n p.cl.next-zd n p.rate)⟩,⟨4,p.tr+p.lr⟩,⟨5,p.am⟩,⟨6,zd p.cur.expired p.cl.next⟩,⟨7,p.inp.up⟩]
 l++[⟨8,p.total-(l.map (·.n)).sum⟩]
def yF:Int→List Li→Bool
 |_,[]=>true
 |a,x::l=>decide (a<x.a∧x.a≤7)&&(x.n !=0&&za x.n)&&yF x.a l
def yh(l:List Li):Bool:=decide (l.length≤20)&&yF 0 l&&(l.map (·.n)).sum==0
def ofJ(id:ByteArray)(upto:Int)(s:List Jo):List Li:=(s.filter fun j=>j.id==id&&decide (j.p≤upto)).flatMap (·.l)
def zec(a b:List Li):Bool:=(a.map fun x=>(x.a,x.n))==(b.map fun x=>(x.a,x.n))
def jq(s:List Jo)(id:ByteArray)(p kind of:Int)(l:List Li):Int×Int×List Jo:=
 if id.size=0∨¬zm p=true∨(kind≠1∧kind≠2)∨(kind=1∧of≠0) then(0,1,s)
 else
  let was:=s[(of-1).toNat]?
  let no:Int:=if kind=2 then match was with
   |some j=>if of<1∨¬(j.id==id&&j.p==p&&j.kind==1)=true then 3 else if s.any fun k=>k.of==of then 4 else 0
   |none=>3
   else 0
  if no≠0 then(0,no,s)
  else if¬yh l=true∨(kind=2∧¬zec l (yO ((was.map (·.l)).getD []))=true) then(0,2,s)
  else if 200≤s.length then(0,5,s)
  else if¬(jB (ofJ id 399 s++l)).all (fun x=>za x.n)=true then(0,6,s)
  else((s.length:Int)+1,0,s++[⟨(s.length:Int)+1,id,p,kind,of,l⟩])
structure Sta where
 book:Int
 perm:Int
 judge:Int
 cap:Int
 life:Int
 up:Int
 reg:List Bu
 l:List Vi
 filed:List Int
structure Clo where
 was:Sta
 p:Pro
 seq:Int
structure Ent where
 id:ByteArray
 j:ByteArray
 fx:Int
 first:Int
 touched:List Bool
 s:Sta
 cs:List Clo
def YM(e:Ent):Int:=e.first+(e.touched.length:Int)-1
def Jx(e:Ent)(p:Int):Option Pro:=(e.cs.find? fun c=>c.p.inp.p==p).map (·.p)
def zbc(l:List Bool):List Bool:=l.dropLast++[true]
def zcQ(s n:Int):Int×Int:=if¬za n=true then(1,s) else if¬za (s+n)=true then(6,s) else(0,s+n)
structure Cmd where
 k:Int
 id:ByteArray
 id2:ByteArray
 j:ByteArray
 c:Int
 d:Int
 y:Int
 z:Int
 p:Int
 n:Int
 r:Int
 x:Int
def zko(e:Ent)(p n:Int):Int×Sta:=
 match Jx e p with
 |none=>(3,e.s)
 |some q=>
  if e.s.filed.contains p then(4,e.s)
  else match zk n q.rate with
  |(v,0)=>
   let w:=v-q.cur.tax
   if¬za w=true∨¬za (e.s.up+w)=true then(6,e.s) else(0,{e.s with up:=e.s.up+w,filed:=e.s.filed++[p]})
  |(_,er)=>(er,e.s)
def zb8(e:Ent)(m:Cmd):Int×Sta:=
 if m.k=3 then let a:=zcQ e.s.book m.n;(a.1,{e.s with book:=a.2})
 else if m.k=4 then let a:=zcQ e.s.perm m.n;(a.1,{e.s with perm:=a.2})
 else if m.k=5 then let a:=zdR e.s.reg m.c m.y m.n;(a.1,{e.s with reg:=a.2})
 else if m.k=6 then let a:=za6 e.s.reg m.c m.y m.d m.z m.n;(a.1,{e.s with reg:=a.2})
 else if m.k=7 then if zn m.r then(0,{e.s with judge:=m.r}) else(1,e.s)
 else if m.k=8 then if zn m.r&&y5 m.y then(0,{e.s with cap:=m.r,life:=m.y}) else(1,e.s)
 else zko e m.p m.n
def Y1(e:Ent)(m:Cmd):Int×Ent:=
 if¬zm (YM e)=true then(8,e)
 else match zb8 e m with
  |(0,s)=>(0,{e with s:=s,touched:=zbc e.touched})
  |(er,_)=>(er,e)
def Qd(e:Ent):Bal:=match e.cs.getLast? with
 |some c=>c.p.cl
 |none=>yp
def qW(t:List Rw)(js:List Jo)(e:Ent):Int×Ent×List Jo:=
 if¬zm (YM e)=true then(8,e,js)
 else
  let s:=e.s
  match YJ t ⟨e.j,YM e,s.book,s.perm,s.judge,s.cap,s.life,s.up⟩ (Qd e) s.l s.reg with
  |(0,p,left)=>
   match jq js e.id (YM e) 1 0 (yC p) with
   |(seq,0,js')=>(0,{e with s:={s with book:=0,perm:=0,up:=0,l:=left},cs:=e.cs++[⟨s,p,seq⟩],touched:=e.touched++[false]},js')
   |(_,er,_)=>(er,e,js)
  |(er,_,_)=>(er,e,js)
def za7(js:List Jo)(e:Ent):Int×Ent×List Jo:=
 if e.touched.length≤1 then(3,e,js)
 else if e.touched.getLast? =some true then(8,e,js)
 else match e.cs.getLast? with
  |none=>(3,e,js)
  |some c=>
   match jq js e.id c.p.inp.p 2 c.seq (yO (yC c.p)) with
   |(_,0,js')=>(0,{e with s:=c.was,cs:=e.cs.dropLast,touched:=e.touched.dropLast},js')
   |(_,er,_)=>(er,e,js)
structure Grp where
 t:List Rw
 js:List Jo
 es:List Ent
 c:List Pa
def zhR:Grp:=⟨[],[],[],[]⟩
def Zk(s b:ByteArray)(x:Pa):Bool:=x.s==s&&x.b==b
def Yk(c:List Pa)(s b:ByteArray):Int:=match c.find? (Zk s b) with
 |some x=>x.n
 |none=>0
def ltS(a b:ByteArray):Bool:=Op.bytesLess a.toList b.toList
def ltP(a b:Pa):Bool:=ltS a.s b.s||(a.s==b.s&&ltS a.b b.b)
def znJ(b:Pa):List Pa→List Pa
 |[]=>[b]
 |x::r=>if ltP b x then b::x::r else x::znJ b r
def zi0(c:List Pa)(s b:ByteArray)(n:Int):Int×List Pa:=
 if s.size=0∨b.size=0∨s=b∨¬za n=true then(1,c)
 else
  let v:=Yk c s b+n
  if v<0∨¬za v=true then(6,c)
  else
   let m:=c.filter fun x=> !Zk s b x;let m:=if v=0 then m else znJ ⟨s,b,v⟩ m
   if 8<m.length then(5,c) else(0,m)
def JW(g:Grp)(id:ByteArray):Option Ent:=g.es.find? fun e=>e.id==id
def zh9(g:Grp)(e:Ent):Grp:={g with es:=g.es.map fun x=>if x.id==e.id then e else x}
def zhw(g:Grp)(m:Cmd):Int×Grp:=
 if(JW g m.id).isSome then(4,g)
 else if 4≤g.es.length then(5,g)
 else if m.x<1∨10000000<m.x then(1,g)
 else if m.id.size=0∨m.j.size=0∨¬zn m.r=true∨¬y5 m.y=true∨¬zm m.p=true then(1,g)
 else(0,{g with es:=g.es++[⟨m.id,m.j,m.x,m.p,[false],⟨0,0,0,m.r,m.y,0,[],[],[]⟩,[]⟩]})
def doD(g:Grp)(m:Cmd):Int×Grp:=
 if m.k=1 then let a:=JJ g.t m.j m.y m.r m.p;(a.1,{g with t:=a.2})
 else if m.k=2 then zhw g m
 else if m.k=10 then
  if(JW g m.id).isNone∨(JW g m.id2).isNone then(3,g)
  else let a:=zi0 g.c m.id m.id2 m.n;(a.1,{g with c:=a.2})
 else match JW g m.id with
  |none=>(3,g)
  |some e=>
   if m.k=11 then let a:=qW g.t g.js e;(a.1,{zh9 g a.2.1 with js:=a.2.2})
   else if m.k=12 then let a:=za7 g.js e;(a.1,{zh9 g a.2.1 with js:=a.2.2})
   else let a:=Y1 e m;(a.1,zh9 g a.2)
end Go.Proofs.YtdmcfjkgopmlgaaGreatDoor.Ev.CA
namespace Go.Proofs.YtdmcfjkgopmlgaaGreatDoor.Ev.CA
open Go
section
attribute [-simp] List.length_flatMap getElem?_pos
abbrev xi(n:Int):XV:= .v (.int .i64 n)
abbrev xb(b:Bool):XV:= .v (.bool b)
abbrev xs(s:ByteArray):XV:= .v (.str s)
abbrev fi(n:Int):XF:= .s (xi n)
abbrev fb(b:Bool):XF:= .s (xb b)
abbrev fs(s:ByteArray):XF:= .s (xs s)
theorem yN{k n:Nat}(hk:k<n)(hn:n<1000000000):IntKind.i64.wrap ((k:Int)+1)=(k:Int)+1:=ze (by omega) (by omega)
theorem yc(n:Int):Pure C 100 [fi n] (fb (za n)):=by
 refine Pure.intro0 (e:=e100) rfl (zuF rfl) (by simp) fun g Ψ h0 hJ=> ?_;simp
 repeat' first|(refine zc (fun hc=> ?_) (fun hc=> ?_)<;>try simp)
 all_goals(simp at *;exact Zv h0 (by simp[za, *]<;>omega))
theorem Zc(n:Int):Pure C 64 [fi n] (fb (zn n)):=by
 refine Pure.intro0 (e:=e64) rfl (zuF rfl) (by simp) fun g Ψ h0 hJ=> ?_;simp
 repeat' first|(refine zc (fun hc=> ?_) (fun hc=> ?_)<;>try simp)
 all_goals(simp at *;exact Zv h0 (by simp[zn, *]<;>omega))
theorem Zg(n:Int):Pure C 30 [fi n] (fb (zm n)):=by
 refine Pure.intro0 (e:=e30) rfl (zuF rfl) (by simp) fun g Ψ h0 hJ=> ?_;simp
 repeat' first|(refine zc (fun hc=> ?_) (fun hc=> ?_)<;>try simp)
 all_goals(simp at *;exact Zv h0 (by simp[zm, *]<;>omega))
theorem ofX(n r:Int):Pure C 82 [fi n,fi r] (.tup [fi (zd n r),fb (decide (qp n r))]):=by
 refine Pure.intro0 (e:=e82) rfl (zuF rfl) (by simp) fun g Ψ h0 hJ=> ?_;simp
 repeat' first|(refine zc (fun hc=> ?_) (fun hc=> ?_)<;>try simp)
 all_goals(refine Zv h0 ?_;simp at *)
 ·simp[zd,qp];omega
 ·simp[zd,qp];omega
 ·simp[zd,qp];omega
 ·simp[zd,qp];omega
 all_goals
  have hk:qp n r:=by unfold qp;omega
  have b:=ZQ (n:=n) (r:=r) (N:=400000000000) (R:=10000000) (by omega) (by omega) (by omega);have e:2*n*r=2*(n*r):=Int.mul_assoc _ _ _;have w1:IntKind.i64.wrap (2*n)=2*n:=ze (by omega) (by omega);have w2:IntKind.i64.wrap (2*n*r)=2*n*r:=by rw[e];exact ze (by omega) (by omega)
  refine⟨?_,hk⟩;rw[w1,w2];unfold zd ofF;rw[zuO hk]
 ·rw[zuO (by assumption),ze (n:=2*n*r-1000000) (by rw[e];omega) (by rw[e];omega)];exact zgW (by rw[e];unfold zlS;omega) 2000000 (by omega)
 ·rw[zuQ (by omega),ze (n:=2*n*r+1000000) (by rw[e];omega) (by rw[e];omega)];exact zgW (by rw[e];unfold zlS;omega) 2000000 (by omega)
theorem zkQ(n r:Int):Pure C 83 [fi n,fi r] (fi (zd n r)):=by
 refine Pure.intro0 (e:=e83) rfl (zuF rfl) (by simp) fun g Ψ h0 hJ=> ?_;simp
 repeat' first|(refine zc (fun hc=> ?_) (fun hc=> ?_)<;>try simp)|(refine zb.pure (ofX ..) ?_;try simp)
 exact h0
theorem zm0(n r o:Int):Pure C 160 [fi n,fi r,fi o] (fi (zd n r-zd n o)):=by
 refine Pure.intro0 (e:=e160) rfl (zuF rfl) (by simp) fun g Ψ h0 hJ=> ?_;have b1:=zB n r;have b2:=zB n o;simp
 repeat' first|(refine zc (fun hc=> ?_) (fun hc=> ?_)<;>try simp)|(refine zb.pure (zkQ ..) ?_;try simp)
 rw[ze (by omega) (by omega)];exact h0
def Yr(p:Int):Int:=if zm p=true then p.tdiv 4 else -1
theorem ziH(p:Int): -1≤Yr p∧Yr p≤99:=by
 unfold Yr;split
 ·rename_i h;simp[zm] at h;rw[zv4 h.1];omega
 ·omega
theorem div4{p:Int}(h:zm p=true):IntKind.i64.wrap (p.tdiv 4)=p.tdiv 4:=by simp[zm] at h;have:p.tdiv 4=p/4:=zv4 h.1;rw[this];exact ze (by omega) (by omega)
theorem zla(p:Int):Pure C 167 [fi p] (fi (Yr p)):=by
 refine Pure.intro0 (e:=e167) rfl (zuF rfl) (by simp) fun g Ψ h0 hJ=> ?_;simp
 repeat' first|(refine zc (fun hc=> ?_) (fun hc=> ?_)<;>try simp)|(refine zb.pure (Zg ..) ?_;try simp)
 ·rw[div4 hc];exact Zv h0 (by simp[Yr,hc])
 ·exact Zv h0 (by simp[Yr,hc])
theorem lossP(n r:Int):Pure C 285 [fi n,fi r] (.tup [fi (zk n r).1,fi (zk n r).2]):=by
 refine Pure.intro0 (e:=e285) rfl (zuF rfl) (by simp) fun g Ψ h0 hJ=> ?_;simp
 repeat' first|(refine zc (fun hc=> ?_) (fun hc=> ?_)<;>try simp)|(refine zb.pure (yc ..) ?_;try simp)|(refine zb.pure (Zc ..) ?_;try simp)|(refine zb.pure (ofX ..) ?_;try simp)
 all_goals(refine Zv h0 ?_;simp[zk,za,zn,qp] at *;(try (refine⟨?_,?_⟩))<;>split<;>simp<;>omega)
def j8(n r:Int):Int×Int:=if 0≤n∧n≤100000000000∧zn r=true then(-zd n r,0) else(0,1)
theorem zsB(n r:Int):Pure C 286 [fi n,fi r] (.tup [fi (j8 n r).1,fi (j8 n r).2]):=by
 refine Pure.intro0 (e:=e286) rfl (zuF rfl) (by simp) fun g Ψ h0 hJ=> ?_;have b:=zB n r;simp
 repeat' first|(refine zc (fun hc=> ?_) (fun hc=> ?_)<;>try simp[ze (n:= -zd n r) (by omega) (by omega)])|(refine zb.pure (yc ..) ?_;try simp[ze (n:= -zd n r) (by omega) (by omega)])|(refine zb.pure (Zc ..) ?_;try simp[ze (n:= -zd n r) (by omega) (by omega)])|(refine zb.pure (ofX ..) ?_;try simp[ze (n:= -zd n r) (by omega) (by omega)])
 all_goals(refine Zv h0 ?_;simp[j8,za,zn,qp] at *;(try (refine⟨?_,?_⟩))<;>split<;>simp<;>omega)
theorem zmo(n r:Int):zk n r=if n<0 then(0,1) else if za n=true then if zn r=true then(zd n r,0) else(0,1) else(0,1):=by
 unfold zk;by_cases h1:n<0
 ·rw[zuO h1,zuQ (by omega)]
 ·by_cases h2:n≤100000000000
  ·have:za n=true:=by simp[za];omega
   simp[h1,h2,this,show 0≤n by omega]
  ·have:za n=false:=by simp[za];omega
   simp[h1,h2,this]
def qU(n r tax:Int):Int×Int:=if(zk n r).2=0 then(if za ((zk n r).1-tax)=true then((zk n r).1-tax,0) else(0,6)) else(0,(zk n r).2)
theorem trueX(n r tax:Int)(ht:za tax=true):Pure C 215 [fi n,fi r,fi tax] (.tup [fi (qU n r tax).1,fi (qU n r tax).2]):=by
 refine Pure.intro0 (e:=e215) rfl (zuF rfl) (by simp) fun g Ψ h0 hJ=> ?_;have b:=zB n r;have w:IntKind.i64.wrap (zd n r-tax)=zd n r-tax:=by simp[za] at ht;exact ze (by omega) (by omega)
 simp
 repeat' first|(refine zc (fun hc=> ?_) (fun hc=> ?_)<;>try simp[w,ht])|(refine zb.pure (yc ..) ?_;try simp[w,ht])|(refine zb.pure (Zc ..) ?_;try simp[w,ht])|(refine zb.pure (ofX ..) ?_;try simp[w,ht])
 all_goals(refine Zv h0 ?_;simp at *)
 all_goals(clear h0 hJ;unfold qU;rw[zmo];(repeat' split)<;>simp_all<;>omega)
section
variable {α:Type} {enc:α→List XV} {t z:Nat}
def RdX(g:XH)(t z:Nat)(enc:α→List XV)(v:XV)(l:List α):Prop:=
 (l=[]∧(v= .v .nils∨v= .nl))∨v= .lst t z l.length (l.flatMap enc)∨∃i w o cs,v= .sl i w o l.length∧zL g i w=some (t,z,cs)∧(o+l.length)*z≤cs.length∧(cs.drop (o*z)).take (l.length*z)=l.flatMap enc
theorem RdX.lst(g:XH)(l:List α):RdX g t z enc (.lst t z l.length (l.flatMap enc)) l:= .inr (.inl rfl)
theorem RdX.sl(he:∀a,(enc a).length=z){g:XH}{i w:Nat}{l:List α}(h:g[i]? =some (.own w t z (l.flatMap enc))):RdX g t z enc (.sl i w 0 l.length) l:=by
 refine .inr (.inr ⟨i,w,0,_,rfl,(by simp only[zL,h,if_true];rfl),?_,?_⟩)
 ·rw[zg he,zvn];exact zuL _
 ·rw[zvP,zu8,←zg he,zve]
theorem RdX.len{g:XH}{v:XV}{l:List α}(r:RdX g t z enc v l):Y6 g (.s v)=some l.length:=by
 rcases r with⟨rfl,rfl|rfl⟩|rfl|⟨i,w,o,cs,rfl,h,_⟩
 ·rfl
 ·rfl
 ·rfl
 ·rfl
theorem RdX.el{g:XH}{v:XV}{l:List α}(r:RdX g t z enc v l):elX g t z (.s v)=some (l.length,l.flatMap enc):=by
 rcases r with⟨rfl,rfl|rfl⟩|rfl|⟨i,w,o,cs,rfl,h,h1,h2⟩
 ·rfl
 ·rfl
 ·cases l with
  |nil=>rfl
  |cons a l=>simp[elX]
 ·simp only[elX,h,and_self,if_true];rw[zuO h1,zaD,h2]
theorem RdX.at(he:∀a,(enc a).length=z)(hz:z≠0){g:XH}{v:XV}{l:List α}(r:RdX g t z enc v l){k:Nat}(hk:k<l.length):∃p cs o,jX g t z (k:Int) (.s v)=some p∧rdX g (.s p)=some (cs,o)∧o+z≤cs.length∧(cs.drop o).take z=enc l[k]∧(z=1→∀x,enc l[k]=[x]→cs[o]? =some x):=by
 have fin:∀(cs:List XV) o,o+z≤cs.length→(cs.drop o).take z=enc l[k]→o+z≤cs.length∧(cs.drop o).take z=enc l[k]∧(z=1→∀x,enc l[k]=[x]→cs[o]? =some x):=fun cs o h1 h2=>by refine⟨h1,h2,?_⟩;rintro rfl x hx;rw[hx] at h2;have:=congrArg (fun l=>l[0]?) h2;simpa[zvh,zvH] using this
 obtain⟨a1,a2,_⟩:=atX he hk;rcases r with⟨rfl,_⟩|rfl|⟨i,w,o,cs,rfl,h,h1,h2⟩
 ·simp at hk
 ·exact⟨.lp (l.flatMap enc) (k*z),_,_,by simp[jX,hk],rfl,fin _ _ a1 a2⟩
 ·have e1:(o+k)*z=o*z+k*z:=zvv _ _ _;have e2:(o+l.length)*z=o*z+l.length*z:=zvv _ _ _;have e3:(k+1)*z≤l.length*z:=zvf _ hk;rw[zwP] at e3;refine⟨.ptr i w ((o+k)*z),cs,(o+k)*z,by simp only[jX,h,and_self,if_true,zxJ,Int.ofNat_lt,hk,zxP],by simp only[rdX,h],fin _ _ (by omega) ?_⟩;rw[←a2,←h2,e1,←zwZ,zw0,zwI,zvu (by omega)]
theorem zc3{g J:XH}{i w:Nat}{x:Nat×Nat×List XV}(h:zL g i w=some x):zL (g++J) i w=some x:=by obtain⟨t,z,cs⟩:=x;have:=ju h;have hi:=(zuJ.1 this.1).1;unfold zL at h⊢;rw[zuK hi];exact h
theorem RdX.app{g J:XH}{v:XV}{l:List α}(r:RdX g t z enc v l):RdX (g++J) t z enc v l:=by
 rcases r with r|r|⟨i,w,o,cs,rfl,h,h1,h2⟩
 ·exact .inl r
 ·exact .inr (.inl r)
 ·exact .inr (.inr ⟨i,w,o,cs,rfl,zc3 h,h1,h2⟩)
end
def ym{α:Type}(q:α→Bool):Nat→List α→Int
 |_,[]=> -1
 |k,x::r=>if q x then(k:Int) else ym q (k+1) r
theorem zbu{α:Type}(q:α→Bool):∀(k:Nat) (l:List α),(ym q k l≥0↔l.any q=true)
 |k,[]=>by simp[ym]
 |k,x::r=>by
  unfold ym;cases hq:q x with
  |true=>simp[hq]
  |false=>simpa[hq] using zbu q (k+1) r
def zj8{α:Type}(g:XH)(f:XV)(enc:α→List XV)(q:α→Bool)(l:List α):Prop:=
 (∃n,f= .v (.fn n)∧∀x∈l,Cl C (fun _=>False) n [.agg (enc x)] g fun u g'=>u=fb (q x)∧g'=g)∨
 ∃i n first caps,f= .cl i∧g[i]? =some (.clo n first caps)∧∀x∈l,Cl C (fun _=>False) n (first++([.agg (enc x)]++caps)) g fun u g'=>u=fb (q x)∧g'=g
def idxL(t z:Nat):EC:=(.seq (.ops [bb 9 .lss 8 7] [0,1,7,8,9]) (.seq (.cond (.t 9) .skip (.exit 0 []))
 (.seq (.block 1 (.seq (.ops [mv 10 8,mv 5 10] [0,1,5,7,8]) (.seq (.ops [mv 11 1,mv 12 0,mv 13 5,ia 14 t z 12 13,ln 15 z 14,gG 16 (.callv (.t 11) [(.t 15)])] [0,1,5,7,8,16]) (.cond (.t 16) (.seq (.ops [mv 17 5,mv 4 17] [4]) (.ret [4])) .skip)))) (.ops [bi 18 .add 8 1,mv 8 18] [0,1,7,8]))))
def idxE(t z:Nat):EF:=⟨19,(.seq (.ops [mi 4 0] [0,1]) (.seq (.seq (.ops [mv 6 0,lE 7 6,mi 8 0] [0,1,7,8]) (.block 0 (.loop [0,1,7,8] (idxL t z)))) (.seq (.ops [mi 4 (-1)] [4]) (.ret [4])))),[.tmp 4]⟩
theorem Yu{α:Type}{enc:α→List XV}{t z f:Nat}(hf:C f=some (idxE t z))(he:∀a,(enc a).length=z)(hz:z≠0){g:XH}{v c:XV}{l:List α}{q:α→Bool}(r:RdX g t z enc v l)(hl:l.length<1000000)(a:zj8 g c enc q l):
 Cl C (fun _=>False) f [.s v,.s c] g fun u g'=>u=fi (ym q 0 l)∧g'=g:=by
 refine Cl.post fun Ψ hΨ=> ?_;refine Cl.intro hf (zuF rfl) ?_;simp[idxE,r.len];refine Lp.gen l.length (fun k (_:Unit)=>[(0,some (.s v)),(1,some (.s c)),(7,some (fi l.length)),(8,some (fi k))]) (fun _ _=>g) (fun k _=>ym q k (l.drop k)=ym q 0 l) () (by decide) (fun _ _=>rfl) rfl ?_ ?_
 ·intro k h s hi hlt N hN;obtain⟨p,cs,o,b1,b2,b3,b4,_⟩:=r.at he hz h;rw[zvq h,ym] at hi;have hx:l[k]∈l:=zvk h;have hn:=yN h (by omega);have go:∀B:Nat→Prop,∀Ψ':XF→XH→Prop,Ψ' (fb (q l[k])) g→cv' C B (some (.s c)) (some [.agg (enc l[k])]) g Ψ':=fun B Ψ' hp=>by
   rcases a with⟨n,rfl,hq⟩|⟨i,n,first,caps,rfl,hi,hq⟩
   ·rw[cv_fn];exact zb.go (hq _ hx) (fun _ _ h=>h.elim) (by rintro u g' ⟨rfl,rfl⟩;exact hp)
   ·rw[cv_cl,hi];simp only[zvc];exact zb.go (hq _ hx) (fun _ _ h=>h.elim) (by rintro u g' ⟨rfl,rfl⟩;exact hp)
  simp[idxL,h,b1,b2,b3,b4,hz];refine go _ _ ?_;simp;refine zc (fun hq=> ?_) (fun hq=> ?_)
  ·rw[zuO hq] at hi;simp;exact Gh.here (hΨ _ _ ⟨by rw[hi],rfl⟩)
  ·rw[zuQ (by simp[hq])] at hi;simp[hn];exact qJ () hN hi (by simp) (by simpa using hlt)
 ·intro s hi;rw[zwL (zuL _),ym] at hi;simp[idxL];exact Gh.here (hΨ _ _ ⟨by rw[←hi],rfl⟩)
def conE(f:Nat):EF:=⟨9,(.seq (.ops [mb 4 false] [0,1]) (.seq (.ops [mv 5 0,mv 6 1,cb 7 f 5 6,bi 8 .geq 7 0,mv 4 8] [4]) (.ret [4]))),[.tmp 4]⟩
theorem Qx{α:Type}{enc:α→List XV}{t z f fi':Nat}(hc:C f=some (conE fi'))(hf:C fi'=some (idxE t z))(he:∀a,(enc a).length=z)(hz:z≠0){g:XH}{v c:XV}{l:List α}{q:α→Bool}(r:RdX g t z enc v l)(hl:l.length<1000000)(a:zj8 g c enc q l):
 Cl C (fun _=>False) f [.s v,.s c] g fun u g'=>u=fb (l.any q)∧g'=g:=by
 refine Cl.post fun Ψ hΨ=> ?_;refine Cl.intro hc (zuF rfl) ?_;simp[conE];refine zb.go (Yu hf he hz r hl a) (fun _ _ h=>h.elim) ?_;rintro u g' ⟨rfl,rfl⟩;simp;refine Gh.here (hΨ _ _ ⟨?_,rfl⟩);have:=zbu q 0 l;cases h:l.any q with
 |true=>simp[this.2 h]
 |false=>
  have:¬ym q 0 l≥0:=fun h'=>by rw[this.1 h'] at h;cases h
  simp;omega
theorem Cl.gh{W:Nat→Prop}{f:Nat}{args:List XF}{g:XH}{Ψ:XF→XH→Prop}(w:Cl C W f args g (Gh W g Ψ)):Cl C W f args g Ψ:=by rintro R args1 rfl H ra;refine(w R args1 rfl H ra).mono ?_;rintro u1 h1 ⟨R',u,rfl,a2,a3,a4,a5⟩;obtain⟨R2,u2,b1,b2,b3,b4,b5⟩:=a5 R R' u1 rfl H a2 a3 rfl a4;exact⟨R2,u2,b1,b2,b3,b4,b5⟩
def Zo(g:XH)(t z n:Nat)(cells:List XV):XF→XH→Prop:=fun u g'=>∃w,u= .s (.sl g.length w 0 n)∧g'=g++[.own w t z cells]
theorem Fresh.frz{W:Nat→Prop}{f:Nat}{args:List XF}{g:XH}{t z n:Nat}{cells:List XV}(w:Cl C W f args g (Zo g t z n cells))(hl:zw g.length cells)(hn:n*z=cells.length):Cl C W f args g fun u g'=>u= .s (.lst t z n cells)∧g'=g:=by refine Cl.gh (w.mono ?_);rintro u g' ⟨w,rfl,rfl⟩;exact Gh.pure (.s (.full (zuL _) (fun j=>by simp) (by simp) hn (.lts hl))) ⟨rfl,rfl⟩
theorem fzh1{W:Nat→Prop}{g J:XH}{k w t z:Nat}{cs:List XV}(hJ:J[k]? =some (.own w t z cs))(hl:zw g.length cs):FzH W g.length J [some k] [.own w t z cs] g g g:=by
 refine⟨rfl,rfl,fun i o e=> .inl ⟨e,.inl e⟩,rfl,fun j j' k e e'=> ?_,fun j o e=> ?_⟩
 ·have h1:=(zuJ.1 e).1;have h2:=(zuJ.1 e').1;simp at h1 h2;omega
 ·have h1:=(zuJ.1 e).1;obtain rfl:j=0:=by simpa using h1
  simp only[zvt,zuE] at e;exact .inr ⟨k,w,t,z,cs,cs,rfl,hJ,e.symm,.lts hl⟩
theorem fzg1{W:Nat→Prop}{g J:XH}{t z:Nat}:FzH W g.length J [none] [.own 0 t z []] g g g:=by
 refine⟨rfl,rfl,fun i o e=> .inl ⟨e,.inl e⟩,rfl,fun j j' k e e'=> ?_,fun j o e=> ?_⟩
 ·have h1:=(zuJ.1 e).1;obtain rfl:j=0:=by simpa using h1
  simp at e
 ·have h1:=(zuJ.1 e).1;obtain rfl:j=0:=by simpa using h1
  simp only[zvt,zuE] at e;exact .inl ⟨rfl,t,z,e.symm⟩
theorem zhr{W:Nat→Prop}{g J:XH}{k w t z n:Nat}{cs:List XV}{Ψ:XF→XH→Prop}(hJ:J[k]? =some (.own w t z cs))(hl:zw g.length cs)(h:∀u g',Zo g t z n cs u g'→Ψ u g'):Gh W g Ψ (.s (.sl (g.length+k) w 0 n)) (g++J):=
 Gh.keep [some k] [.own w t z cs] (fzh1 hJ hl) (.s (.ksl (j:=0) rfl)) (h _ _ ⟨w,rfl,rfl⟩)
theorem zte{W:Nat→Prop}{g J:XH}{t z:Nat}{Ψ:XF→XH→Prop}(h:∀u g',Zo g t z 0 [] u g'→Ψ u g'):Gh W g Ψ (.s (.v .nils)) (g++J):=
 Gh.keep [none] [.own 0 t z []] fzg1 (.s (.gh (j:=0) (t:=t) (z:=z) rfl rfl)) (h _ _ ⟨0,rfl,rfl⟩)
theorem zks{W:Nat→Prop}{g:XH}{t z:Nat}{Ψ:XF→XH→Prop}(h:∀u g',Zo g t z 0 [] u g'→Ψ u g'):Gh W g Ψ (.s (.v .nils)) g:=by
 have:=zte (W:=W) (J:=[]) h
 rwa [zvl] at this
def zlq(t z y:Nat)(zs:List SV):EF:=⟨8,(.seq (.ops [mc 2 .nils] [0]) (.seq (.seq (.ops [mv 3 0,gG 4 (.eqn false (.t 3) (.c (.s .nils)))] [0,4]) (.cond (.t 4) (.seq (.ops [mc 2 .nils] [2]) (.ret [2])) .skip)) (.seq (.ops [gG 5 (.bsl t 0 zs []),mv 6 0,ap 7 t z y 5 6,mv 2 7] [2]) (.ret [2])))),[.tmp 2]⟩
theorem JQ{α:Type}{enc:α→List XV}{t z y f:Nat}{zs:List SV}(hf:C f=some (zlq t z y zs))(hzs:zs.length=z)(hnl:zs.all nlS=true)(he:∀a,(enc a).length=z)(hz:z≠0){g:XH}{v:XV}{l:List α}(r:RdX g t z enc v l)(hlv:∀a,zw g.length (enc a))(hy:l.length*y≤140737488355328):
 Cl C (fun _=>False) f [.s v] g (Zo g t z l.length (l.flatMap enc)):=by
 refine Cl.post fun Ψ hΨ=> ?_;refine Cl.intro hf (zuF rfl) ?_;have hlen:(l.flatMap enc).length=l.length*z:=zg he l;have hl:=zZ hlv l;have e1:=r.el;have e2:elX (g++[XO.own 0 t z []]) t z (.s v)=some (l.length,l.flatMap enc):=r.app.el;have hq:(Ja g (.s v)=some (some true)∧l=[])∨(Ja g (.s v)=some none∧l=[])∨Ja g (.s v)=some (some false):=by
  rcases r with⟨rfl,rfl|rfl⟩|rfl|⟨i,w,o,cs,rfl,h,h1,h2⟩
  ·exact .inl ⟨rfl,rfl⟩
  ·exact .inr (.inl ⟨rfl,rfl⟩)
  ·cases l with
   |nil=>exact .inr (.inl ⟨rfl,rfl⟩)
   |cons a l=>exact .inr (.inr rfl)
  ·rw[zkH,h];simp only;by_cases h0:cs.length=0
   ·rw[zuO h0];refine .inr (.inl ⟨rfl,?_⟩);have:(o+l.length)*z=o*z+l.length*z:=zvv _ _ _;have h3:l.length*z=0:=by omega
    exact zvU ((Nat.mul_eq_zero.1 h3).resolve_right hz)
   ·rw[zuQ h0];exact .inr (.inr rfl)
 have tru:l=[]→Gh (fun _=>False) g Ψ (.s (.v .nils)) g:=fun h=>by subst h;exact zks hΨ
 have fr:∀w cells,l.flatMap enc=cells→Gh (fun _=>False) g Ψ (.s (.sl g.length w 0 l.length)) (g++[.own w t z cells]):=fun w cells h=>by subst h;exact zhr (k:=0) (J:=[.own w t z (l.flatMap enc)]) rfl hl hΨ
 by_cases h0:l.length=0
 ·have hn:l=[]:=zvU h0;rw[hn] at fr;rcases hq with⟨hq,_⟩|⟨hq,_⟩|hq
  ·simp[zlq,hq];exact tru hn
  ·simp[zlq,hq,e2,hnl,hzs,rep,h0];refine zmE ?_ ?_
   ·simp;exact tru hn
   ·simp[e2,hnl,hzs,rep,h0];exact fr 0 [] rfl
  ·simp[zlq,hq,e2,hnl,hzs,rep,h0];exact fr 0 [] rfl
 ·have h1:(l.flatMap enc).length≠0:=by rw[hlen];exact zxo h0 hz
  have h2:¬l.flatMap enc=[]:=fun h=>h1 (by rw[h];rfl);rcases hq with⟨_,hn⟩|⟨_,hn⟩|hq
  ·exact absurd (by rw[hn];rfl) h0
  ·exact absurd (by rw[hn];rfl) h0
  ·simp[zlq,hq,e2,hnl,hzs,rep,h0,zfH h0,h1,h2,hy];exact fr 1 _ rfl
attribute [simp] qh lvO
theorem jJ(a b:ByteArray):(a.toList==b.toList)=decide (a=b):=by
 rw[←yj];by_cases e:a=b
 ·subst e;rw[yj];simp
 ·have h1:(a==b)=false:=by rw[yj];exact zv2 e
  rw[h1];have:¬a.toList=b.toList:=fun h=>e (by
   rw[zwc,zwc] at h;obtain⟨a⟩:=a;obtain⟨b⟩:=b;have:a=b:=Array.toList_inj.1 h;rw[this])
  simpa using this
def qF(x:Rw):List XV:=[xs x.j,xi x.y,xi x.r,xi x.p]
theorem QB(x:Rw):(qF x).length=4:=rfl
theorem zns(m:Nat)(l:List Rw):zw m (l.flatMap qF):=zZ (fun a=>by simp[qF]) l
attribute [simp] zns
def Yc(T R:Nat)(g:XH)(i k:Nat)(t:List Rw):Prop:=∃w,g[i]? =some (.own 0 T 1 [.sl k w 0 t.length])∧g[k]? =some (.own w R 4 (t.flatMap qF))
theorem sameP(x:Rw)(j:ByteArray)(y p:Int){g:XH}{a b d:Nat}(ha:g[a]? =some (.own 0 9 1 [xs j]))(hb:g[b]? =some (.own 0 3 1 [xi y]))(hd:g[d]? =some (.own 0 3 1 [xi p])):Cl C (fun _=>False) 63 [.agg (qF x),.s (.ptr a 0 0),.s (.ptr b 0 0),.s (.ptr d 0 0)] g fun u g'=>u=fb (zgL j y p x)∧g'=g:=by
 have la:=(zuJ.1 ha).1;have lb:=(zuJ.1 hb).1;have ld:=(zuJ.1 hd).1;refine Cl.ip rfl (zuF rfl) fun Ψ hΨ=> ?_;simp[qF,ha,hb,hd,la,lb,ld,jJ]
 repeat' first|(refine zc (fun hc=> ?_) (fun hc=> ?_)<;>try simp[ha,hb,hd,la,lb,ld,jJ])
 all_goals(refine Gh.pure (.s (.lt (by simp))) (hΨ _ _ ⟨?_,rfl⟩);simp at *;simp[zgL,yj, *])
theorem zf{g:XH}{i:Nat}{o:XO}(h:g[i]? =some o):i<g.length:=(zuJ.1 h).1
theorem zge{W:Nat→Prop}{g J:XH}{a b:Nat}{A B:XO}{Ψ:XF→XH→Prop}{u:XF}(hA:lvO g.length A)(hB:lvO g.length B)(hu:lvF g.length u)(h:Ψ u ((g.set a A).set b B)):Gh W g Ψ u (((g.set a A).set b B)++J):=
 Gh.fz ((FzH.refl.set a hA).set b hB) (.lt hu) h
theorem jc{g:XH}{i:Nat}{o:XO}(h:g[i]? =some o):g.set i o=g:=by obtain⟨l,rfl⟩:=zuJ.1 h;exact zw7 l
def zey(T R:Nat)(g:XH)(i k w:Nat)(t:List Rw):XH:=(g.set k (.own w R 4 (t.flatMap qF))).set i (.own 0 T 1 [.sl k w 0 t.length])
theorem Yc.same{T R:Nat}{g:XH}{i k:Nat}{t:List Rw}(h:Yc T R g i k t):∃w,g=zey T R g i k w t:=by obtain⟨w,h1,h2⟩:=h;exact⟨w,by unfold zey;rw[jc h2,jc h1]⟩
theorem yM{j:ByteArray}:j.toList.isEmpty=decide (j.size=0):=by rw[zwc];obtain⟨d⟩:=j;show d.toList.isEmpty=decide (d.size=0);rw[←zxj];cases d.toList<;>simp
set_option maxHeartbeats 1000000 in
theorem zuc{g:XH}{i k:Nat}{t:List Rw}(ht:Yc 145 140 g i k t)(hne:i≠k)(hl:t.length≤24)(j:ByteArray)(y r p:Int):
 Cl C (fun x=>x=i∨x=k) 25 [.s (.ptr i 0 0),fs j,fi y,fi r,fi p] g fun u g'=>u=fi (JJ t j y r p).1∧∃w,g'=zey 145 140 g i k w (JJ t j y r p).2:=by
 obtain⟨w0,he⟩:=ht.same;obtain⟨w,hi,hk⟩:=ht;have li:=zf hi;have lk:=zf hk;have hlen:(t.flatMap qF).length=t.length*4:=zg QB t;have g1:∀x,(g.set k x)[i]? =g[i]? :=fun x=>zH hne.symm;refine Cl.ip rfl (zuF rfl) fun Ψ hΨ=> ?_;have no:∀n J,JJ t j y r p=(n,t)→Gh (fun x=>x=i∨x=k) g Ψ (fi n) (g++J):=fun n J h=>Gh.pure (.s (.lt (by simp))) (hΨ _ _ ⟨by rw[h],w0,by rw[h];exact he⟩);simp[hi,hk,li,lk,yM]
 repeat' first|(refine zc (fun hc=> ?_) (fun hc=> ?_)<;>try simp[hi,hk,li,lk])|(refine zb.pure (Zc ..) ?_;try simp[hi,hk,li,lk])|(refine zb.pure (Zg ..) ?_;try simp[hi,hk,li,lk])
 case refine_2.refine_2.refine_2.refine_1.refine_1=>
  have hq:∀x∈t,Cl C (fun _=>False) 63 ([]++([.agg (qF x)]++[.s (.ptr g.length 0 0),.s (.ptr (g.length+1) 0 0),.s (.ptr (g.length+2) 0 0)])) (g++[.own 0 9 1 [xs j],.own 0 3 1 [xi y],.own 0 3 1 [xi p],.clo 63 [] [.s (.ptr g.length 0 0),.s (.ptr (g.length+1) 0 0),.s (.ptr (g.length+2) 0 0)]]) fun u g'=>u=fb (zgL j y p x)∧g'=g++[.own 0 9 1 [xs j],.own 0 3 1 [xi y],.own 0 3 1 [xi p],.clo 63 [] [.s (.ptr g.length 0 0),.s (.ptr (g.length+1) 0 0),.s (.ptr (g.length+2) 0 0)]]:=fun x _=>sameP x j y p (by simp) (by simp) (by simp);refine zb.go (Qx (f:=65) (fi':=129) rfl rfl QB (by decide) (RdX.sl QB (g:=g) hk).app (by omega) (.inr ⟨g.length+3,_,_,_,rfl,by simp,hq⟩)) (fun _ _ h=>h.elim) ?_;rintro u g' ⟨rfl,rfl⟩;simp[hi,hk,li,lk];simp only[zuW,zvY] at *;have hneg:¬(j.size=0∨¬y5 y=true∨¬zn r=true∨¬zm p=true):=by simp[y5, *]
  unfold JJ at no hΨ;rw[zuQ hneg] at no hΨ;refine zc (fun hc=> ?_) (fun hc=> ?_)
  ·simp;exact no 4 _ (by rw[zuO hc])
  rw[zuQ (by simp[hc])] at no hΨ;simp[hi,hk,li,lk];refine zc (fun hc=> ?_) (fun hc=> ?_)
  ·simp at hc⊢;exact no 5 _ (by rw[zuO (by omega)])
  ·simp at hc;rw[zuQ (by omega)] at hΨ;simp[hlen,show(t.length+1)*40≤140737488355328 by omega,hi,hk,g1,li,lk];refine zge (by simp[qF]) (by simp[lk]) (by simp) (hΨ _ _ ⟨rfl,w+1,?_⟩);simp[zey,qF]
 all_goals
  simp only[zuW,zvY] at *;exact no _ _ (by unfold JJ;rw[zuO];simp[y5, *]<;>omega)
def rwOf(s:Option Rw):Rw:=s.getD ⟨⟨#[]⟩,0,0,0⟩
@[simp] theorem zuC(b:Rw):rwOf (some b)=b:=rfl
theorem zgV{g:XH}{i k:Nat}{t:List Rw}(ht:Yc 145 140 g i k t)(hl:t.length≤1000)(j:ByteArray)(y p:Int):
 Cl C (fun _=>False) 166 [.s (.ptr i 0 0),fs j,fi y,fi p] g fun u g'=>u= .tup [fi ((jb t j y p).getD 0),fb (jb t j y p).isSome]∧g'=g:=by
 obtain⟨w,hi,hk⟩:=ht;have li:=zf hi;have lk:=zf hk;refine Cl.ip rfl (zuF rfl) fun Ψ hΨ=> ?_;simp[hi,hk,li,lk];refine Lp.fold (keep:=[1,2,3,10,11,18,19,20]) t (fun q s=>[(1,some (fs j)),(2,some (fi y)),(3,some (fi p)),(10,some (.s (.ptr g.length 0 0))),(11,some (fb s.isSome)),(18,some (.s (.sl k w 0 t.length))),(19,some (fi t.length)),(20,some (fi q))]) (fun _ s=>g++[.own 0 140 4 (qF (rwOf s))]) (Q2 j y p) none (by decide) (fun _ _=>rfl) ?_ ?_
 ·intro q hq s hs hlt N hN;obtain⟨a1,a2,_⟩:=atX QB hq;generalize t[q]=x at *;have hn:=yN hq (by omega);have go:∀s',Q2 j y p s x=s'→∀J fr,fr=[(1,some (fs j)),(2,some (fi y)),(3,some (fi p)),(10,some (.s (.ptr g.length 0 0))),(11,some (fb s'.isSome)),(18,some (.s (.sl k w 0 t.length))),(19,some (fi t.length)),(20,some (fi ((q:Int)+1)))]→N fr (g++ .own 0 140 4 (qF (rwOf s'))::J):=fun s' e J fr hf=>by
   subst hf;rw[e] at hN;exact zgx hN J rfl (by simp) (by simpa using hlt) (by simp) (by simp[qF])
  clear hlt hN hs;cases s with
  |none=>
   simp[l166_0,hq,a1,a2,hk,lk,qF,jJ,hn]
   repeat' first|(refine zc (fun hc=> ?_) (fun hc=> ?_)<;>try simp[hq,a1,a2,hk,lk,qF,jJ,hn])
   all_goals
    simp only[zuW,zvY] at *
    first
     |exact go none (by simp only[Q2,zax,yj]<;>(repeat' split)<;>simp_all<;>omega) _ _ rfl
     |exact go (some x) (by simp only[Q2,zax,yj]<;>(repeat' split)<;>simp_all<;>omega) _ _ rfl
     |trace_state
  |some b=>
   simp[l166_0,hq,a1,a2,hk,lk,qF,jJ,hn]
   repeat' first|(refine zc (fun hc=> ?_) (fun hc=> ?_)<;>try simp[hq,a1,a2,hk,lk,qF,jJ,hn])
   all_goals
    simp only[zuW,zvY] at *
    first
     |exact go (some b) (by simp only[Q2,zax,yj]<;>(repeat' split)<;>simp_all<;>omega) _ _ rfl
     |exact go (some x) (by simp only[Q2,zax,yj]<;>(repeat' split)<;>simp_all<;>omega) _ _ rfl
     |trace_state
 ·intro s hs;simp[l166_0,qF];refine Gh.pure (.cons (.s (.lt (by simp))) (.cons (.s (.lt (by simp))) .nil)) (hΨ _ _ ⟨?_,rfl⟩);rw[hs];unfold jb;cases t.foldl (Q2 j y p) none<;>rfl
theorem ZY:∀(b' b c:List XV) (a:List XV),b'.length=b.length→setX (a++(b++c)) a.length b'=a++(b'++c)
 |[],[],c,a,_=>by simp[setX]
 |x::b',y::b,c,a,h=>by
  have ih:=ZY b' b c (a++[x]) (by simpa using h);simp only[zuM,zuS,zvc,List.singleton_append] at ih;simp only[setX];have e:(a++(y::b++c)).set a.length x=a++x::(b++c):=by rw[zvO _ _ (zuL _),zvG];rfl
  rw[e,ih];rfl
theorem ZX{a b:List XV}(h:b.length=a.length):setX a 0 b=b:=by have:=ZY b a [] [] h;simpa using this
theorem zbv{α:Type}{enc:α→List XV}{z:Nat}(he:∀a,(enc a).length=z){m:List α}{i:Nat}(hi:i<m.length)(x:α)(post:List XV):setX (m.flatMap enc++post) (i*z) (enc x)=(m.set i x).flatMap enc++post:=by
 have e1:m=m.take i++m[i]::m.drop (i+1):=by rw[←zvq hi,zvj]
 have e2:m.set i x=m.take i++x::m.drop (i+1):=by rw[List.set_eq_take_append_cons_drop,zuO hi]
 have l1:((m.take i).flatMap enc).length=i*z:=by rw[zg he,zu0,zvu (by omega)]
 rw[e2]
 conv=>lhs;rw[e1]
 simp only[zvw,zvN,zvc];have:=ZY (enc x) (enc m[i]) ((m.drop (i+1)).flatMap enc++post) ((m.take i).flatMap enc) (by rw[he,he]);simpa only[zuM,l1,zvc] using this
theorem zje{α:Type}{enc:α→List XV}{z:Nat}(he:∀a,(enc a).length=z){m:List α}{i:Nat}(hi:i≤m.length)(b post:List XV)(hb:b.length=(m.length-i)*z):setX (m.flatMap enc++post) (i*z) b=(m.take i).flatMap enc++(b++post):=by
 have l1:((m.take i).flatMap enc).length=i*z:=by rw[zg he,zu0,zvu (by omega)]
 conv=>lhs;rw[←zvj i m]
 rw[zvw,zvc];have:=ZY b ((m.drop i).flatMap enc) post ((m.take i).flatMap enc) (by rw[hb,zg he,zvQ])
 rwa [l1] at this
theorem zdp{α:Type}(q:α→Bool):∀(l:List α) (k:Nat),(ym q k l= -1∧l.any q=false)∨∃i,ym q k l=((k+i:Nat):Int)∧i<l.length∧(l.take i).any q=false∧(l[i]?).map q=some true
 |[],k=> .inl ⟨rfl,rfl⟩
 |x::l,k=>by
  unfold ym;cases hx:q x with
  |true=>exact .inr ⟨0,rfl,zx2 _,rfl,by simp[hx]⟩
  |false=>
   rcases zdp q l (k+1) with⟨e1,e2⟩|⟨i,e1,e2,e3,e4⟩
   ·exact .inl ⟨by simp[e1],by simp[hx,e2]⟩
   ·exact .inr ⟨i+1,by simp[e1];omega,Nat.succ_lt_succ e2,by rw[zu3,List.any_cons,hx,e3];rfl,by simpa using e4⟩
theorem JV{α:Type}{q:α→Bool}{l:List α}(h:l.any q=false):l.filter (fun x=> !q x)=l:=by rw[List.filter_eq_self];intro x hx;rw[List.any_eq_false] at h;simp[h x hx]
theorem zn3{m n:Nat}{zs:List SV}:zw m ((rep n zs).map .v):=by
 induction(rep n zs) with
 |nil=>simp[zw]
 |cons a l ih=>simp only[zu2,zw,lvV];exact⟨trivial,ih⟩
theorem zkX{n:Nat}{zs:List SV}{z:Nat}(h:zs.length=z):(rep n zs).length=n*z:=by unfold rep;simp[h]
def delL(t z:Nat)(zs:List SV):EC:=(.seq (.seq (.ops [mv 16 6,mv 17 0,lE 18 17,bb 19 .lss 16 18] [0,1,5,6,19]) (.cond (.t 19) .skip (.exit 0 [0,5])))
 (.seq (.block 1 (.seq (.ops [mv 22 0,mv 23 6,ia 24 t z 22 23,ln 25 z 24,gG 7 (.new t z (.c (.agg zs))),sr z 7 25] [0,1,5,6,7]) (.seq (.ops [mv 26 1,ln 27 z 7,gG 28 (.callv (.t 26) [(.t 27)]),nT 29 28] [0,1,5,6,7,29]) (.cond (.t 29) (.seq (.ops [mv 30 0,mv 31 5,ln 32 z 7,ia 33 t z 30 31,sr z 33 32] [0,1,5,6]) (.ops [mv 34 5,bi 35 .add 34 1,mv 5 35] [0,1,5,6])) .skip)))) (.ops [mv 20 6,bi 21 .add 20 1,mv 6 21] [0,1,5,6])))
def delE(t z:Nat)(zs:List SV)(fi:Nat):EF:=⟨42,(.seq (.ops [mc 4 .nils] [0,1]) (.seq (.ops [mv 8 0,mv 9 1,cb 10 fi 8 9,mv 5 10] [0,1,5]) (.seq (.seq (.ops [mv 11 5,bi 12 .eql 11 (-1)] [0,1,5,12]) (.cond (.t 12) (.seq (.ops [mv 13 0,mv 4 13] [4]) (.ret [4])) .skip))
 (.seq (.seq (.ops [mv 14 5,bi 15 .add 14 1,mv 6 15] [0,1,5,6]) (.block 0 (.loop [0,1,5,6] (delL t z zs)))) (.seq (.ops [mv 36 0,mv 37 5,gG 38 (.sli t z (.t 36) (some (.t 37)) none),gN (.clr t zs (.t 38))] [0,5]) (.seq (.ops [mv 39 0,mv 40 5,gG 41 (.sli t z (.t 39) none (some (.t 40))),mv 4 41] [4]) (.ret [4]))))))),[.tmp 4]⟩
def AsksA{α:Type}(g:XH)(k w t z:Nat)(f:XV)(enc:α→List XV)(q:α→Bool)(l:List α):Prop:=∀cells J,zj8 (g.set k (.own w t z cells)++J) f enc q l
theorem zcz{α:Type}{enc:α→List XV}{t z f fi':Nat}{zs:List SV}(hf:C f=some (delE t z zs fi'))(hfi:C fi'=some (idxE t z))(hz:z≠0)(hzs:zs.length=z)(hnl:zs.all nlS=true)(he:∀a,(enc a).length=z){g:XH}{c:XV}{l:List α}{q:α→Bool}{k w:Nat}{junk:List XV}(hk:g[k]? =some (.own w t z (l.flatMap enc++junk)))(hl:l.length<1000000)(hlv:∀a m,zw m (enc a))(hj:∀m,zw m junk)(a:AsksA g k w t z c enc q l):
 Cl C (fun x=>x=k) f [.s (.sl k w 0 l.length),.s c] g fun u g'=>∃junk',(∀m,zw m junk')∧u= .s (.sl k w 0 (l.filter fun x=> !q x).length)∧g'=g.set k (.own w t z ((l.filter fun x=> !q x).flatMap enc++junk')):=by
 refine Cl.post fun Ψ hΨ=> ?_;refine Cl.intro hf (zuF rfl) ?_;have lk:=zf hk;have r:RdX g t z enc (.sl k w 0 l.length) l:=by
  refine .inr (.inr ⟨k,w,0,_,rfl,(by simp only[zL,hk,if_true];rfl),?_,?_⟩)
  ·rw[zuM,zg he,zvn];exact zwY _ _
  ·rw[zvP,zu8,←zg he,zv8];rfl
 have a0:zj8 g c enc q l:=by have:=a (l.flatMap enc++junk) [];rwa [jc hk,zvl] at this
 simp[delE];refine zb.go0 (Yu hfi he hz r hl a0) ?_;rcases zdp q l 0 with⟨e1,e2⟩|⟨i0,e1,e2,e3,e4⟩
 ·simp[e1];refine Gh.here (hΨ _ _ ⟨junk,hj,?_,?_⟩)
  ·rw[JV e2]
  ·rw[JV e2,jc hk]
 ·rw[zvn] at e1;have w1:IntKind.i64.wrap ((i0:Int)+1)=((i0+1:Nat):Int):=ze (by omega) (by omega);have n1:¬((i0:Int)= -1):=by omega
  have n2:((i0:Int)== -1)=false:=by simp
  simp[e1,n1,n2,w1];obtain⟨x0,hx0,hq0⟩:∃x,l[i0]? =some x∧q x=true:=by rw[zuV e2] at e4⊢;exact⟨_,rfl,by simpa using e4⟩
  have ht0:l.take i0=(l.take (i0+1)).filter fun x=> !q x:=by rw[List.take_add_one,hx0,zwB,JV e3];simp[hq0]
  have gk:∀X:XO,(g.set k X)[k]? =some X:=fun X=>yo lk;have e0:g=g.set k (.own w t z (l.flatMap enc++junk)):=(jc hk).symm;have cl:∀m:List α,m.length=l.length→(m.flatMap enc++junk).length=l.length*z+junk.length:=fun m hm=>by rw[zuM,zg he,hm]
  have main:=Lp.gen (keep:=[0,1,5,6]) (σ:=Nat×List α) (C:=C) (B:=fun i=>g.length≤i∨i=k) (b:=delL t z zs) (Φ:=KBx 0 (Kx C (fun i=>g.length≤i∨i=k) (.seq (.ops [mv 36 0,mv 37 5,gG 38 (.sli t z (.t 36) (some (.t 37)) none),gN (.clr t zs (.t 38))] [0,5]) (.seq (.ops [mv 39 0,mv 40 5,gG 41 (.sli t z (.t 39) none (some (.t 40))),mv 4 41] [4]) (.ret [4]))) (KRx [.tmp 4] (Gh (fun x=>x=k) g Ψ)))) (l.length-(i0+1)) (fun r s=>[(0,some (.s (.sl k w 0 l.length))),(1,some (.s c)),(5,some (fi s.1)),(6,some (fi ((i0+1+r:Nat):Int)))]) (fun _ s=>g.set k (.own w t z (s.2.flatMap enc++junk)))
   (fun r s=>s.1<i0+1+r∧s.2.length=l.length∧s.2.take s.1=(l.take (i0+1+r)).filter (fun x=> !q x)∧s.2.drop (i0+1+r)=l.drop (i0+1+r)) (i0,l) (by decide) (fun _ _=>rfl) ⟨zwG _,rfl,ht0,rfl⟩ ?_ ?_
  ·simp only at main;rw[←e0] at main;exact main
  ·rintro r hr ⟨i,m⟩ ⟨p1,p2,p3,p4⟩ hlt N hN;simp only at p1 p2 p3 p4 hlt hN⊢;generalize hjj:i0+1+r=j at *;have hjl:j<l.length:=by omega
   have hmj:j<m.length:=by omega
   have hmi:i<m.length:=by omega
   have emj:m[j]=l[j]:=by have:=congrArg (fun L=>L[0]?) p4;simp only[zvH,zwa] at this;rw[zuV hmj,zuV hjl] at this;exact zuG this
   obtain⟨a1,a2,_⟩:=atX he hmj;have b1:j*z+z≤(m.flatMap enc++junk).length:=by rw[zuM];omega
   have b2:((m.flatMap enc++junk).drop (j*z)).take z=enc l[j]:=by rw[zxv (by omega),zwX (by rw[zvQ];omega),a2,emj]
   have b3:i*z+z≤(m.flatMap enc++junk).length:=by obtain⟨a1,_,_⟩:=atX he hmi;rw[zuM];omega
   have b4:(m.flatMap enc++junk).length≠0:=by have:=zxp hz;omega
   have b5:=zbv he hmi l[j] junk;have hx:l[j]∈l:=zvk hjl;have wj:IntKind.i64.wrap ((j:Int)+1)=((j+1:Nat):Int):=ze (by omega) (by omega);have wi:IntKind.i64.wrap ((i:Int)+1)=((i+1:Nat):Int):=ze (by omega) (by omega);have htk:l.take (j+1)=l.take j++[l[j]]:=zu6 hjl;have hdj:l.drop j=l[j]::l.drop (j+1):=zvq hjl;have go:∀B:Nat→Prop,∀g1,(∃J,g1=g.set k (.own w t z (m.flatMap enc++junk))++J)→∀Ψ':XF→XH→Prop,Ψ' (fb (q l[j])) g1→xcv C B (some (.s c)) (some [.agg (enc l[j])]) g1 Ψ' .mk:=fun B g1 ⟨J,hg1⟩ Ψ' hp=>by
    subst hg1;rcases a (m.flatMap enc++junk) J with⟨n,rfl,hq⟩|⟨i,n,first,caps,rfl,hi,hq⟩
    ·rw[zpe];exact zb.go (hq _ hx) (fun _ _ h=>h.elim) (by rintro u g' ⟨rfl,rfl⟩;exact hp)
    ·rw[zpd,hi,zpc];simp only[zvc];exact zb.go (hq _ hx) (fun _ _ h=>h.elim) (by rintro u g' ⟨rfl,rfl⟩;exact hp)
   have step1:q l[j]=true→m.take i=(l.take (j+1)).filter (fun x=> !q x):=fun hq=>by rw[htk,zwB,p3];simp[hq]
   have step2:q l[j]=false→(m.set i l[j]).take (i+1)=(l.take (j+1)).filter (fun x=> !q x):=fun hq=>by rw[htk,zwB,←p3,zu6 (by simpa using hmi),List.take_set_of_le (zuL _)];simp[hq]
   have hd:m.drop (j+1)=l.drop (j+1):=by have e:m.drop j=m[j]::m.drop (j+1):=zvq hmj;rw[e,hdj,List.cons.injEq] at p4;exact p4.2
   have hd2:(m.set i l[j]).drop (j+1)=l.drop (j+1):=by rw[List.drop_set_of_lt (by omega),hd]
   have go2:∀(i':Nat) (m':List α) (J:XH) (fr:XFr),i'<j+1→m'.length=l.length→m'.take i'=(l.take (j+1)).filter (fun x=> !q x)→m'.drop (j+1)=l.drop (j+1)→fr=[(0,some (.s (.sl k w 0 l.length))),(1,some (.s c)),(5,some (fi ((i':Nat):Int))),(6,some (fi ((j+1:Nat):Int)))]→N fr (g.set k (.own w t z (m'.flatMap enc++junk))++J):=fun i' m' J fr h1 h2 h3 h4 h5=>by
    subst h5;have e:i0+1+(r+1)=j+1:=by omega
    rw[e] at hN;refine hN (i',m') _ _ ⟨h1,h2,h3,h4⟩ ⟨rfl,⟨J,rfl⟩,by simp,?_,?_⟩
    ·simpa using hlt
    ·intro x o hx e;by_cases hxk:k=x
     ·subst hxk;rw[gk] at e;obtain rfl:=zuG e;exact .inr (by simp[lvO,zZ (fun a=>hlv a _),hj])
     ·rw[zH hxk] at e;exact .inl (by rw[zH hxk];exact e)
   have ez:setX (zs.map .v) 0 (enc l[j])=enc l[j]:=ZX (by rw[he,zu9,hzs]);have el:(enc l[j]).length=z:=he _;have et:(enc l[j]).take z=enc l[j]:=by rw[←el,zve]
   generalize hcs:m.flatMap enc++junk=cs at *;have b6:¬cs=[]:=fun e=>b4 (by rw[e];rfl);have hil:i<l.length:=by omega
   have G1:=gk (.own w t z cs);have G2:g.length≤(g.set k (.own w t z cs)).length:=by simp
   have G3:k<(g.set k (.own w t z cs)).length:=by simpa using lk
   have G4:∀X,(g.set k (.own w t z cs)).set k X=g.set k X:=fun X=>by simp
   generalize hG:g.set k (.own w t z cs)=G at *;simp[delL,hjl,b1,b2,G1,G2,G3,hzs,rep,hz,ez,el,et,hnl,-List.all_eq_true];refine go _ _ ⟨_,rfl⟩ _ ?_;simp;refine zc (fun hq=> ?_) (fun hq=> ?_)
   ·simp[wj];have:=fun J=>go2 i m J _ (by omega) p2 (step1 hq) hd rfl;rw[hcs,hG] at this;exact this _
   ·simp[G1,G2,G3,G4,hz,el,et,hil,b3,b5,b6,wi,wj];exact go2 (i+1) (m.set i l[j]) _ _ (by omega) (by simpa using p2) (step2 hq) hd2 (by simp)
  ·rintro⟨i,m⟩ ⟨p1,p2,p3,p4⟩;have hj2:i0+1+(l.length-(i0+1))=l.length:=by omega
   simp only[hj2] at p1 p2 p3 p4⊢;rw[zve] at p3;have hi:(l.filter fun x=> !q x).length=i:=by rw[←p3,zu0];omega
   have b4:(m.flatMap enc++junk).length≠0:=by rw[cl m p2];have:=Nat.mul_pos (show 0<l.length by omega) (zxp hz);omega
   have b5:=zje he (m:=m) (i:=i) (by omega) ((rep (m.length-i) zs).map .v) junk (by rw[zu9,zkX hzs]);have b6:(m.flatMap enc++junk).length=l.length*z+junk.length:=cl m p2;have b7:(i+(l.length-i))*z=l.length*z:=by congr 1;omega
   rw[p2,p3] at b5;have b9:¬(l.length*z=0∧junk=[]):=fun e=>b4 (by rw[b6,e.1,e.2];rfl);generalize hcs:m.flatMap enc++junk=cs at *;have b8:¬cs=[]:=fun e=>b4 (by rw[e];rfl);obtain⟨cs2,hcs2⟩:∃cs2,cs2=(l.filter fun x=> !q x).flatMap enc++((rep (l.length-i) zs).map XV.v++junk):=⟨_,rfl⟩
   rw[←hcs2] at b5;have b10:∀m,zw m ((rep (l.length-i) zs).map .v):=fun m=>zn3;have b11:¬setX cs (i*z) ((rep (l.length-i) zs).map .v)=[]:=fun e=>b8 (zvU (by rw[←zbe _ cs (i*z),e];rfl));rw[b5] at b11;simp[rep] at b5;simp[delL,gk,lk,show i≤l.length by omega,hzs,b5,b6,b7,b8,b9,b11,rep,hnl,-List.all_eq_true];refine Gh.here (hΨ _ _ ⟨_,fun m=> ?_,by rw[hi],by rw[hcs2]⟩);exact qh.2 ⟨b10 m,hj m⟩
def Q4{α:Type}(e:α→α→Bool):List α→List α→Bool
 |[],[]=>true
 |a::l,b::m=>e a b&&Q4 e l m
 |_,_=>false
theorem zfn{α:Type}{e:α→α→Bool}:∀{a b:List α},a.length≠b.length→Q4 e a b=false
 |[],[],h=>(h rfl).elim
 |[],_::_,_=>rfl
 |_::_,[],_=>rfl
 |a::l,b::m,h=>by simp only[Q4,zfn (a:=l) (b:=m) (by simpa using h),Bool.and_false]
theorem zjT{α:Type}{e:α→α→Bool}{a b:List α}{k:Nat}(ha:k<a.length)(hb:k<b.length):Q4 e (a.drop k) (b.drop k)=(e a[k] b[k]&&Q4 e (a.drop (k+1)) (b.drop (k+1))):=by rw[zvq ha,zvq hb];rfl
section
variable {α:Type} {enc:α→List XV} {e:α→α→Bool} {t z f:Nat} {o:List (Nat×Nat)} {g:XH} {u v:XV} {a b:List α}
end
section
variable {α:Type} {c:α→SV} {e:α→α→Bool} {t f:Nat} {g:XH} {u v:XV} {a b:List α}
end
def eqlL(t z:Nat)(o:List (Nat×Nat)):EC:=(.seq (.ops [bb 14 .lss 13 12] [0,1,12,13,14]) (.seq (.cond (.t 14) .skip (.exit 0 [])) (.seq (.block 1 (.seq (.ops [mv 15 13,mv 5 15] [0,1,5,12,13]) (.seq (.draw [mv 16 0,mv 17 5,ia 18 t z 16 17,ln 19 z 18,mv 20 1,mv 21 5,ia 22 t z 20 21,ln 23 z 22,gG 24 (.eqs true o (.t 19) (.t 23))] [] [0,1,12,13,24]) (.cond (.t 24) (.seq (.ops [mb 4 false] [4]) (.ret [4])) .skip)))) (.ops [bi 25 .add 13 1,mv 13 25] [0,1,12,13]))))
def eqlE(t z:Nat)(o:List (Nat×Nat)):EF:=⟨26,(.seq (.ops [mb 4 false] [0,1]) (.seq (.seq (.ops [mv 6 0,lE 7 6,mv 8 1,lE 9 8,bb 10 .neq 7 9] [0,1,10]) (.cond (.t 10) (.seq (.ops [mb 4 false] [4]) (.ret [4])) .skip)) (.seq (.seq (.ops [mv 11 0,lE 12 11,mi 13 0] [0,1,12,13]) (.block 0 (.loop [0,1,12,13] (eqlL t z o)))) (.seq (.ops [mb 4 true] [4]) (.ret [4]))))),[.tmp 4]⟩
section
variable {α:Type} {enc:α→List XV} {e:α→α→Bool} {t z f:Nat} {o:List (Nat×Nat)} {g:XH} {u v:XV} {a b:List α}
theorem zs6(hf:C f=some (eqlE t z o))(he:∀a,(enc a).length=z)(hz:z≠0)(hq:∀x y,jV ((enc x).map unV) ((enc y).map unV) o=some (e x y))(ra:RdX g t z enc u a)(rb:RdX g t z enc v b)(hl:a.length<1000000):
 Cl C (fun _=>False) f [.s u,.s v] g fun r g'=>r=fb (Q4 e a b)∧g'=g:=by
 refine Cl.post fun Ψ hΨ=> ?_;refine Cl.intro hf (zuF rfl) ?_;simp[eqlE,ra.len,rb.len];refine zc (fun hc=> ?_) (fun hc=> ?_)
 ·simp at hc⊢;exact Gh.here (hΨ _ _ ⟨by rw[zfn (by omega)],rfl⟩)
 ·simp at hc;have hab:a.length=b.length:=by omega
  simp[ra.len];refine Lp.gen (keep:=[0,1,12,13]) a.length (fun k (_:Unit)=>[(0,some (.s u)),(1,some (.s v)),(12,some (fi (a.length:Int))),(13,some (fi (k:Int)))]) (fun _ _=>g) (fun k _=>Q4 e (a.drop k) (b.drop k)=Q4 e a b) () (by decide) (fun _ _=>rfl) rfl ?_ ?_
  ·intro k hk _ hi hlt N hN;obtain⟨p,cs,o1,b1,b2,b3,b4,_⟩:=ra.at he hz hk;obtain⟨p',cs',o2,d1,d2,d3,d4,_⟩:=rb.at he hz (hab▸hk);rw[zjT hk (hab▸hk)] at hi;have hn:=yN hk (by omega);simp[eqlL,hk,b1,b2,b3,b4,d1,d2,d3,d4,hz,hq,ra.len,-List.map_map];refine zc (fun hx=> ?_) (fun hx=> ?_)
   ·rw[hx,zxB] at hi;simp[hn];exact qJ () hN hi (by simp) (by simpa using hlt)
   ·rw[hx,Bool.false_and] at hi;simp;exact Gh.here (hΨ _ _ ⟨by rw[←hi],rfl⟩)
  ·intro _ hi;rw[zwL (zuL _),zwL (by omega)] at hi;simp[eqlL,ra.len];exact Gh.here (hΨ _ _ ⟨by rw[←hi];rfl,rfl⟩)
end
def yb(b:Bu):List XV:=[xi b.c,xi b.y,xi b.n]
theorem zR(b:Bu):(yb b).length=3:=rfl
theorem zaH(b:Bu)(m:Nat):zw m (yb b):=by simp[yb]
@[simp] theorem JT(m:Nat)(l:List Bu):zw m (l.flatMap yb):=zZ (fun a=>zaH a m) l
def RegQ(g:XH)(i:Nat)(l:List Bu):Prop:=∃v,g[i]? =some (.own 0 263 1 [v])∧RdX g 261 3 yb v l
theorem keyBP(x:Bu)(c y:Int){g:XH}{a b:Nat}(ha:g[a]? =some (.own 0 3 1 [xi c]))(hb:g[b]? =some (.own 0 3 1 [xi y])):Cl C (fun _=>False) 312 [.agg (yb x),.s (.ptr a 0 0),.s (.ptr b 0 0)] g fun u g'=>u=fb (jm c y x)∧g'=g:=by
 have la:=zf ha;have lb:=zf hb;refine Cl.ip rfl (zuF rfl) fun Ψ hΨ=> ?_;simp[yb,ha,hb,la,lb]
 repeat' first|(refine zc (fun hc=> ?_) (fun hc=> ?_)<;>try simp[yb,ha,hb,la,lb])
 all_goals(refine Gh.pure (.s (.lt (by simp))) (hΨ _ _ ⟨?_,rfl⟩);simp at *;simp[jm, *])
theorem zsq{g:XH}{i:Nat}{l:List Bu}(h:RegQ g i l)(hl:l.length≤1000)(c y:Int):Cl C (fun _=>False) 268 [.s (.ptr i 0 0),fi c,fi y] g fun u g'=>u=fi (ym (jm c y) 0 l)∧g'=g:=by obtain⟨v,h1,h2⟩:=h;have li:=zf h1;refine Cl.ip rfl (zuF rfl) fun Ψ hΨ=> ?_;simp[h1,li];refine zb.go0 (Yu (f:=287) rfl zR (by decide) h2.app (by omega) (.inr ⟨g.length+2,312,[],[.s (.ptr g.length 0 0),.s (.ptr (g.length+1) 0 0)],rfl,by simp,fun x _=>keyBP x c y (by simp) (by simp)⟩)) ?_;simp;exact Gh.pure (.s (.lt (by simp))) (hΨ _ _ ⟨rfl,rfl⟩)
theorem zeP(c y:Int):∀(l:List Bu) (k:Nat),(ym (jm c y) k l= -1∧getD l c y=0∧l.any (jm c y)=false)∨∃i,ym (jm c y) k l=((k+i:Nat):Int)∧∃h:i<l.length,getD l c y=l[i].n
 |[],k=> .inl ⟨rfl,rfl,rfl⟩
 |x::l,k=>by
  unfold ym;cases hx:jm c y x with
  |true=>exact .inr ⟨0,rfl,zx2 _,by simp[getD,hx]⟩
  |false=>
   have e:getD (x::l) c y=getD l c y:=by simp[getD,hx]
   rcases zeP c y l (k+1) with⟨e1,e2,e3⟩|⟨i,e1,e2,e3⟩
   ·exact .inl ⟨by simp[e1],by rw[e,e2],by simp[hx,e3]⟩
   ·exact .inr ⟨i+1,by simp[e1];omega,by simpa using e2,by rw[e,e3];rfl⟩
def YB(g:XH)(i:Nat)(l:List Bu):Prop:=g[i]? =some (.own 0 263 1 [.lst 261 3 l.length (l.flatMap yb)])
theorem YB.q{g:XH}{i:Nat}{l:List Bu}(h:YB g i l):RegQ g i l:=⟨_,h,RdX.lst g l⟩
theorem zjJ{g:XH}{i:Nat}{l:List Bu}(h:YB g i l)(hl:l.length≤1000)(c y:Int):Cl C (fun _=>False) 210 [.s (.ptr i 0 0),fi c,fi y] g fun u g'=>u=fi (getD l c y)∧g'=g:=by
 have h1:g[i]? =_:=h;have li:=zf h1;refine Cl.ip rfl (zuF rfl) fun Ψ hΨ=> ?_;simp;refine zb.go0 (zsq h.q hl c y) ?_;rcases zeP c y l 0 with⟨e1,e2,_⟩|⟨k,e1,hk,e3⟩
 ·simp[e1];exact Gh.here (hΨ _ _ ⟨by rw[e2],rfl⟩)
 ·rw[zvn] at e1;obtain⟨_,_,a3⟩:=atX zR hk;have a4:=a3 2 (by decide);have e0:¬(k:Int)<0:=by omega
  simp[e1,e0,h1,li,hk,a4,yb];exact Gh.here (hΨ _ _ ⟨by rw[e3],rfl⟩)
theorem ztY{g:XH}{i:Nat}{l:List Bu}(h:YB g i l)(hl:l.length≤1000)(hm:∀b∈l,za b.n=true):Cl C (fun _=>False) 211 [.s (.ptr i 0 0)] g fun u g'=>u=fi (yL l)∧g'=g:=by
 have h1:g[i]? =_:=h;have li:=zf h1;refine Cl.ip rfl (zuF rfl) fun Ψ hΨ=> ?_;simp[h1,li];refine Lp.fold (keep:=[3,9,10,11]) l (fun k s=>[(3,some (fi s)),(9,some (.s (.lst 261 3 l.length (l.flatMap yb)))),(10,some (fi l.length)),(11,some (fi k))]) (fun _ _=>g) (fun s b=>s+b.n) 0 (by decide) (fun _ _=>rfl) ?_ ?_
 ·intro k hk s hs hlt N hN;obtain⟨a1,a2,_⟩:=atX zR hk;have w:IntKind.i64.wrap (s+l[k].n)=s+l[k].n:=by
   rw[QE] at hs;have:=zbU Bu.n 100000000000 (by omega) (l.take k) fun b hb=>by simpa[za] using hm b (zvM hb)
   have h2:za l[k].n=true:=hm _ (zvk hk);simp[za] at h2;rw[zu0] at this;exact ze (by omega) (by omega)
  generalize l[k]=x at *;simp[l211_0,hk,a1,a2,yb,w,yN hk (by omega)];exact Jb hN (by simp) (by simp)
 ·intro s hs;simp[l211_0];exact Gh.here (hΨ _ _ ⟨by rw[hs,QE];simp[yL],rfl⟩)
theorem zke(c:Int)(y:Int):Pure C 209 [fi c,fi y] (fb (yQ c y)):=by
 refine Pure.intro0 (e:=e209) rfl (zuF rfl) (by simp) fun g Ψ h0 hJ=> ?_;simp
 repeat' first|(refine zc (fun hc=> ?_) (fun hc=> ?_)<;>try simp)
 all_goals(simp at *;exact Zv h0 (by simp[yQ,y5, *]<;>omega))
def jZ(c y n:Int):List Bu→List Bu
 |[]=>if n≠0 then[⟨c,y,n⟩] else[]
 |x::l=>if jm c y x then⟨x.c,x.y,n⟩::l else x::jZ c y n l
theorem zd6(c y n:Int):∀(l:List Bu),(jZ c y n l).length≤l.length+1
 |[]=>by unfold jZ;split<;>simp
 |x::l=>by unfold jZ;split<;>simp[zd6 c y n l]
theorem zeQ(c y n:Int):∀(l:List Bu) (k:Nat),(ym (jm c y) k l= -1∧jZ c y n l=l++(if n≠0 then[⟨c,y,n⟩] else[]))∨∃i,ym (jm c y) k l=((k+i:Nat):Int)∧∃h:i<l.length,jZ c y n l=l.set i ⟨l[i].c,l[i].y,n⟩
 |[],k=> .inl ⟨rfl,by simp[jZ]⟩
 |x::l,k=>by
  unfold ym jZ;cases hx:jm c y x with
  |true=>exact .inr ⟨0,rfl,zx2 _,by simp⟩
  |false=>
   rcases zeQ c y n l (k+1) with⟨e1,e2⟩|⟨i,e1,e2,e3⟩
   ·exact .inl ⟨by simp[e1],by simp[e2]⟩
   ·exact .inr ⟨i+1,by simp[e1];omega,by simpa using e2,by simp[e3]⟩
def jF(l:List Bu)(c y n:Int):List Bu:=(jZ c y n l).filter fun b=> !(b.n==0)
theorem zeroP(x:Bu)(g:XH):Cl C (fun _=>False) 270 [.agg (yb x)] g fun u g'=>u=fb (x.n==0)∧g'=g:=by refine Cl.ip rfl (zuF rfl) fun Ψ hΨ=> ?_;simp[yb];exact Gh.pure (.s (.lt (by simp))) (hΨ _ _ ⟨by simp,rfl⟩)
section
attribute [-simp] zbr
structure Upd(S:Nat→Prop)(g g':XH):Prop where
 len:g'.length=g.length
 same:∀j:Nat,¬S j→g'[j]? =g[j]?
 old:∀(j:Nat) (o:XO),g'[j]? =some o→g[j]? =some o∨lvO g.length o
theorem Upd.refl{S:Nat→Prop}{g:XH}:Upd S g g:=⟨rfl,fun _ _=>rfl,fun _ _ h=> .inl h⟩
theorem Upd.set{S:Nat→Prop}{g g':XH}(h:Upd S g g'){i:Nat}(hi:S i){o:XO}(ho:lvO g.length o):Upd S g (g'.set i o):=by
 refine⟨by rw[zvi,h.len],fun j hj=> ?_,fun j p e=> ?_⟩
 ·rw[zuR (by rintro rfl;exact hj hi)];exact h.same j hj
 ·by_cases hij:i=j
  ·subst hij;have:=(zuJ.1 e).1;rw[zvi] at this;rw[zu1 this] at e;exact .inr (zuG e▸ho)
  ·rw[zuR hij] at e;exact h.old j p e
theorem Upd.trans{S:Nat→Prop}{g g' g'':XH}(h:Upd S g g')(k:Upd S g' g''):Upd S g g'':=
 ⟨k.len.trans h.len,fun j hj=>(k.same j hj).trans (h.same j hj),fun j o e=>(k.old j o e).elim (fun e=>h.old j o e) (fun l=> .inr (h.len▸l))⟩
theorem qZ{W S:Nat→Prop}{g G J:XH}{Ψ:XF→XH→Prop}{u:XF}(h:Upd S g G)(hu:lvF g.length u)(hp:Ψ u G):Gh W g Ψ u (G++J):=
 Gh.fz ⟨h.len,h.len,fun i o e=> .inl ⟨e,h.old i o e⟩,rfl,fun _ _ _ e=>by simp at e,fun _ _ e=>by simp at e⟩ (.lt hu) hp
theorem RdX.junk{α:Type}{enc:α→List XV}{t z:Nat}(he:∀a,(enc a).length=z){g:XH}{i w:Nat}{l:List α}{junk:List XV}(h:g[i]? =some (.own w t z (l.flatMap enc++junk))):RdX g t z enc (.sl i w 0 l.length) l:=by
 refine .inr (.inr ⟨i,w,0,_,rfl,(by simp only[zL,h,if_true];rfl),?_,?_⟩)
 ·rw[zuM,zg he,zvn];exact zwY _ _
 ·rw[zvP,zu8,←zg he,zv8];rfl
def zli(g:XH)(i k:Nat)(l:List Bu):Prop:=∃w junk,(∀m,zw m junk)∧g[i]? =some (.own 0 263 1 [.sl k w 0 l.length])∧g[k]? =some (.own w 261 3 (l.flatMap yb++junk))
theorem zli.q{g:XH}{i k:Nat}{l:List Bu}(h:zli g i k l):RegQ g i l:=by obtain⟨w,junk,_,h1,h2⟩:=h;exact⟨_,h1,RdX.junk zR h2⟩
theorem znC(l:List Bu)(k:Nat)(hk:k<l.length)(n:Int)(junk:List XV):(l.flatMap yb++junk).set (k*3+2) (xi n)=(l.set k ⟨l[k].c,l[k].y,n⟩).flatMap yb++junk:=by
 rw[←zbv zR hk];have e1:l=l.take k++l[k]::l.drop (k+1):=by rw[←zvq hk,zvj]
 have l1:((l.take k).flatMap yb).length=k*3:=by rw[zg zR,zu0,zvu (by omega)]
 generalize l[k]=x at *;rw[e1];simp only[zvw,zvN,zvc];generalize(l.take k).flatMap yb=P at *;generalize(l.drop (k+1)).flatMap yb=Q at *;rw[←l1,ZY (yb ⟨x.c,x.y,n⟩) (yb x) (Q++junk) P rfl,zvO _ _ (by omega),show P.length+2-P.length=2 by omega];rfl
theorem zjM{g:XH}{i k:Nat}{l:List Bu}(h:zli g i k l)(hne:i≠k)(hl:l.length≤1000)(c y n:Int):Cl C (fun x=>x=i∨x=k) 212 [.s (.ptr i 0 0),fi c,fi y,fi n] g fun u g'=>u= .tup []∧zli g' i k (jF l c y n)∧Upd (fun x=>x=i∨x=k) g g':=by
 have hq:=h.q;obtain⟨w,junk,hj,hi,hk⟩:=h;have li:=zf hi;have lk:=zf hk;obtain⟨cs,hcs⟩:∃cs,cs=l.flatMap yb++junk:=⟨_,rfl⟩
 have hlen:cs.length=l.length*3+junk.length:=by rw[hcs,zuM,zg zR]
 have hcut:zbr cs 0 l.length 3=l.flatMap yb:=by rw[zaD,hcs,zvP,zu8,←zg zR,zv8];rfl
 rw[←hcs] at hk;refine Cl.ip rfl (zuF rfl) fun Ψ hΨ=> ?_;simp;refine zb.go0 (zsq hq hl c y) ?_;simp;have fin:∀(G J:XH) (l1:List Bu) (w1:Nat) (junk1:List XV),l1=jZ c y n l→l1.length≤1001→(∀m,zw m junk1)→Upd (fun x=>x=i∨x=k) g G→i<G.length→G[i]? =some (.own 0 263 1 [.sl k w1 0 l1.length])→G[k]? =some (.own w1 261 3 (l1.flatMap yb++junk1))→∀K:XF→XH→Prop,(∀(w2:Nat) (junk2:List XV) (J G':XH),(∀m,zw m junk2)→G'=G.set k (.own w1 261 3 ((jF l c y n).flatMap yb++junk2))→K (.s (.sl k w1 0 (jF l c y n).length)) (G'++J))→xCX C (fun x=>g.length≤x∨(x=i∨x=k)) 269 [.s (.sl k w1 0 l1.length),.s (.v (.fn 270))] (G++J) K .mk:=by intro G J l1 w1 junk1 e1 hl1 hj1 hU liG hiG hkG K hK;have lkG:=zf hkG;refine zb.go (zcz (fi':=287) (q:=fun b=>b.n==0) rfl rfl (by decide) rfl rfl zR (g:=G++J) (k:=k) (w:=w1) (junk:=junk1) (by rw[zq lkG];exact hkG) (by omega) zaH hj1 (fun cells J=> .inl ⟨_,rfl,fun x _=>zeroP x _⟩)) (fun x hx e=> .inr (.inr e)) ?_;rintro u g' ⟨junk',hj',rfl,rfl⟩;rw[zk1 lkG];subst e1;exact hK w1 junk' J _ hj' rfl
 have pl:=zd6 c y n l;have lv:∀m,zw m (cs):=fun m=>by rw[hcs,qh];exact⟨JT m l,hj m⟩
 have done:∀(G:XH) (l1:List Bu) (w1:Nat) (junk1 junk2:List XV) (J G':XH),l1=jZ c y n l→(∀m,zw m junk2)→Upd (fun x=>x=i∨x=k) g G→G'=G.set k (.own w1 261 3 ((jF l c y n).flatMap yb++junk2))→Gh (fun x=>x=i∨x=k) g Ψ (.tup []) (G'.set i (.own 0 263 1 [.sl k w1 0 (jF l c y n).length])++J):=by
  rintro G l1 w1 junk1 junk2 J G' _ h2 hU rfl;have u:Upd (fun x=>x=i∨x=k) g ((G.set k (.own w1 261 3 ((jF l c y n).flatMap yb++junk2))).set i (.own 0 263 1 [.sl k w1 0 (jF l c y n).length])):=(hU.set (.inr rfl) (by simp[lvO,h2])).set (.inl rfl) (by simp[lvO,lk]);have hl:=hU.len;refine qZ u (by simp) (hΨ _ _ ⟨rfl,⟨w1,junk2,h2,?_,?_⟩,u⟩)
  ·exact yo (by rw[zvi];omega)
  ·rw[zH hne];exact yo (by omega)
 rcases zeQ c y n l 0 with⟨e1,e2⟩|⟨k0,e1,hk0,e3⟩
 ·simp[e1];refine zc (fun hc=> ?_) (fun hc=> ?_)
  ·simp at hc;rw[zuO hc] at e2;simp[hi,hk,li,lk,hne,hne.symm,show l.length*3≤cs.length by omega,hcut,show(l.length+1)*24≤140737488355328 by omega,show∀a b d:XV,zbr [a,b,d] 0 1 3=[a,b,d] from fun _ _ _=>rfl];have u:Upd (fun x=>x=i∨x=k) g ((g.set k (.own (w+1) 261 3 (l.flatMap yb++[xi c,xi y,xi n]))).set i (.own 0 263 1 [.sl k (w+1) 0 (l.length+1)])):=(Upd.refl.set (.inr rfl) (by simp[lvO])).set (.inl rfl) (by simp[lvO,lk]);have:=fin _ [.own 0 261 3 [xi c,xi y,xi n]] (l++[⟨c,y,n⟩]) (w+1) [] e2.symm (by simp;omega) (fun m=>by simp[zw]) u (by simpa using li) (by simp[li]) (by simp[hne,hne.symm,lk,yb]);simp only[zuM,zuS] at this;refine this _ ?_;rintro w2 junk2 J G' h2 rfl;simp[li,lk,hi,hne.symm];simpa using done _ _ _ [] junk2 J _ e2.symm h2 u rfl
  ·simp at hc;rw[zuQ (by simpa using hc),zvl] at e2;simp[hi,hk,li,lk,hne,hne.symm];have:=fin g [] l w junk e2.symm (by omega) hj Upd.refl li hi (by rw[hk,hcs]);rw[zvl] at this;refine this _ ?_;rintro w2 junk2 J G' h2 rfl;simp[li,lk,hi,hne.symm];simpa using done _ _ _ [] junk2 J _ e2.symm h2 Upd.refl rfl
 ·rw[zvn] at e1;have hcn:¬cs=[]:=fun e=>by rw[e] at hlen;simp at hlen;omega
  have hset:cs.set (k0*3+2) (xi n)=(jZ c y n l).flatMap yb++junk:=by rw[hcs,znC l k0 hk0,e3]
  have hpl:(jZ c y n l).length=l.length:=by rw[e3,zvi]
  simp[e1,hi,hk,li,lk,hk0,hne,hne.symm,hcn,hset,show k0*3+2+1≤cs.length by omega];have u:Upd (fun x=>x=i∨x=k) g (g.set k (.own w 261 3 ((jZ c y n l).flatMap yb++junk))):=Upd.refl.set (.inr rfl) (by simp[lvO,hj]);have:=fin _ [] (jZ c y n l) w junk rfl (by omega) hj u (by simpa using li) (by simp[hne.symm,hi,hpl]) (by simp[lk]);rw[zvl,hpl] at this;refine this _ ?_;rintro w2 junk2 J G' h2 rfl;simp[li,lk,hi,hne.symm];have:=done _ _ w [] junk2 J _ rfl h2 u rfl;simp at this;exact this
end
theorem FzV.junk{n0:Nat}{J:XH}{K:List (Option Nat)}{O:XH}{i w t z n:Nat}{cs junk:List XV}(h1:n0≤i)(hk:zl4 K (i-n0))(h2:J[i-n0]? =some (.own w t z (cs++junk)))(h4:n*z=cs.length)(h5:zw n0 cs)(h6:zw n0 junk):FzV n0 J K O (.sl i w 0 n) (.lst t z n cs):=by
 have:=FzV.sl (o:=0) (n:=n) h1 hk h2 (by rw[zuM,zvn,h4];exact zwY _ _) (FzVs.lts (qh.2 ⟨h5,h6⟩):FzVs n0 J K O _ _)
 rwa [zvP,zu8,h4,zv8 rfl] at this
theorem zik{g:XH}{i:Nat}{l:List Bu}(h:YB g i l)(hl:l.length≤1000):Cl C (fun _=>False) 97 [.s (.ptr i 0 0)] g fun u g'=>u= .s (.ptr (g.length+1) 0 0)∧∃w,g'=g++[.own w 261 3 (l.flatMap yb),.own 0 263 1 [.sl g.length w 0 l.length]]:=by have h1:g[i]? =_:=h;have li:=zf h1;refine Cl.ip rfl (zuF rfl) fun Ψ hΨ=> ?_;simp[h1,li];refine zb.go (JQ (enc:=yb) (z:=3) (l:=l) rfl rfl rfl zR (by decide) (RdX.lst g l) (fun a=>zaH a _) (by omega)) (fun _ _ h=>h.elim) ?_;rintro u g' ⟨w,rfl,rfl⟩;simp;exact Gh.here (hΨ _ _ ⟨rfl,w,rfl⟩)
theorem zkV{g:XH}{i j k w n:Nat}{cs:List XV}(hi:∃v,g[i]? =some (.own 0 263 1 [v]))(hj:g[j]? =some (.own 0 263 1 [.sl k w 0 n]))(hk:g[k]? =some (.own w 261 3 cs)):Cl C (fun x=>x=i) 213 [.s (.ptr i 0 0),.s (.ptr j 0 0)] g fun u g'=>if 12<n then u=fi 5∧g'=g else u=fi 0∧g'=g.set i (.own 0 263 1 [.sl k w 0 n]):=by
 obtain⟨v,hi⟩:=hi;have li:=zf hi;have lj:=zf hj;have lk:=zf hk;refine Cl.ip rfl (zuF rfl) fun Ψ hΨ=> ?_;simp[hj,hk,lj,lk];refine zc (fun hc=> ?_) (fun hc=> ?_)
 ·simp at hc⊢;exact Gh.here (hΨ _ _ (by rw[zuO (by omega)];exact⟨rfl,rfl⟩))
 ·simp at hc;simp[hi,hj,li,lj];exact Gh.here (hΨ _ _ (by rw[zuQ (by omega)];exact⟨rfl,rfl⟩))
def Q8(l:List Bu):Prop:=l.length≤12∧(∀b∈l,za b.n=true)∧za (yL l)=true
theorem Q8.get{l:List Bu}(h:Q8 l)(c y:Int):za (getD l c y)=true:=by
 unfold getD;cases e:l.find? (jm c y) with
 |none=>rfl
 |some b=>exact h.2.1 b (zv7 e)
def jx(l:List Bu)(c y n:Int):Int×List Bu:=
 if¬yQ c y=true∨¬za n=true then(1,l)
 else if¬za (getD l c y+n)=true∨¬za (yL l+n)=true then(6,l)
 else if 12<(jF l c y (getD l c y+n)).length then(5,l) else(0,jF l c y (getD l c y+n))
theorem Jm{a b:Int}(ha:za a=true)(hb:za b=true):IntKind.i64.wrap (a+b)=a+b:=by simp[za] at ha hb;exact ze (by omega) (by omega)
theorem zq8{g:XH}{i:Nat}{l:List Bu}(h:YB g i l)(hI:Q8 l)(c y n:Int):Cl C (fun x=>x=i) 143 [.s (.ptr i 0 0),fi c,fi y,fi n] g fun u g'=>u=fi (jx l c y n).1∧YB g' i (jx l c y n).2∧Upd (fun x=>x=i) g g':=by
 have h1:g[i]? =_:=h;have li:=zf h1;have hl:=hI.1;refine Cl.ip rfl (zuF rfl) fun Ψ hΨ=> ?_;have no:∀n' J,jx l c y n=(n',l)→Gh (fun x=>x=i) g Ψ (fi n') (g++J):=fun n' J e=>qZ (S:=fun x=>x=i) Upd.refl (by simp) (hΨ _ _ ⟨by rw[e],by rw[e];exact h,Upd.refl⟩);have no0:∀n',jx l c y n=(n',l)→Gh (fun x=>x=i) g Ψ (fi n') g:=fun n' e=>by have:=no n' [] e;rwa [zvl] at this
 simp;refine zb.pure (zke ..) ?_;simp;refine zc (fun hb=> ?_) (fun hb=> ?_)
 rotate_left
 ·simp;exact no0 1 (by unfold jx;rw[zuO (.inl (by simp[hb]))])
 simp;refine zb.pure (yc ..) ?_;simp;refine zc (fun hm=> ?_) (fun hm=> ?_)
 rotate_left
 ·simp;exact no0 1 (by unfold jx;rw[zuO (.inr (by simp[hm]))])
 have hgm:=hI.get c y;simp;refine zb.go0 (zjJ h (by omega) c y) ?_;simp[Jm hgm hm];refine zb.pure (yc ..) ?_;simp;refine zc (fun hs=> ?_) (fun hs=> ?_)
 rotate_left
 ·simp;exact no0 6 (by unfold jx;rw[zuQ (by simp[hb,hm]),zuO (.inl (by simp[hs]))])
 simp;refine zb.go0 (ztY h (by omega) hI.2.1) ?_;simp[Jm hI.2.2 hm];refine zb.pure (yc ..) ?_;simp;refine zc (fun ht=> ?_) (fun ht=> ?_)
 rotate_left
 ·simp;exact no0 6 (by unfold jx;rw[zuQ (by simp[hb,hm]),zuO (.inr (by simp[ht]))])
 simp;refine zb.go (zik h (by omega)) (fun _ _ h=>h.elim) ?_;rintro u g' ⟨rfl,w,rfl⟩;simp;have hj:zli (g++[.own w 261 3 (l.flatMap yb),.own 0 263 1 [.sl g.length w 0 l.length]]) (g.length+1) g.length l:=⟨w,[],fun m=>by simp[zw],by simp,by simp⟩
 refine zb.go (zjM hj (by omega) (by omega) c y (getD l c y+n)) (fun x hx e=> .inl (by rcases e with rfl|rfl<;>omega)) ?_;rintro u g' ⟨rfl,⟨w2,junk,hjk,q1,q2⟩,hU⟩;have e0:jx l c y n=if 12<(jF l c y (getD l c y+n)).length then(5,l) else(0,jF l c y (getD l c y+n)):=by unfold jx;rw[zuQ (by simp[hb,hm]),zuQ (by simp[hs,ht])]
 generalize jF l c y (getD l c y+n)=l' at *;have hgi:g'[i]? =g[i]? :=by rw[hU.same i (by omega),zq li]
 simp;refine zb.go (zkV ⟨_,hgi.trans h1⟩ q1 q2) (fun x hx e=> .inr e) ?_;have hpre:∃J,g'=g++J∧J[0]? =some (.own w2 261 3 (l'.flatMap yb++junk)):=by
  refine⟨g'.drop g.length,?_,?_⟩
  ·have:g'.take g.length=g:=by
    apply zv0;intro j;by_cases hj:j<g.length
    ·rw[zvh,zuO hj,hU.same j (by omega),zq hj]
    ·rw[zvh,zuQ hj,zvK (by omega)]
   conv=>lhs;rw[←zvj g.length g',this]
  ·rw[zvH];exact q2
 obtain⟨J,rfl,hJ⟩:=hpre;rintro u g2 hu;by_cases h12:12<l'.length
 ·rw[zuO h12] at hu e0;obtain⟨rfl,rfl⟩:=hu;simp;exact no 5 J e0
 ·rw[zuQ h12] at hu e0;obtain⟨rfl,rfl⟩:=hu;simp[li];refine Gh.fz ((FzH.refl (W:=fun x=>x=i) (J:=J)).put i 0 263 1 rfl (.cons (FzV.junk (cs:=l'.flatMap yb) (junk:=junk) (t:=261) (z:=3) (zuL _) (fun j=>by simp) (by rw[zvG];exact hJ) (by rw[zg zR]) (JT _ _) (hjk _)) .nil)) (.s (.lt (by simp))) (hΨ _ _ ⟨by rw[e0],?_,?_⟩)
  ·rw[e0];exact yo li
  ·exact(Upd.refl (S:=fun x=>x=i)).set (i:=i) rfl (by simp[lvO])
theorem zrA{a b:Int}(ha:za a=true)(hb:za b=true):IntKind.i64.wrap (a-b)=a-b:=by simp[za] at ha hb;exact ze (by omega) (by omega)
theorem zmx{S:Nat→Prop}{g J g':XH}(h:Upd S (g++J) g')(hS:∀j,j<g.length→¬S j):∃J',g'=g++J'∧∀j,g'[g.length+j]? =J'[j]? :=by
 have e:g'=g++g'.drop g.length:=by
  have:g'.take g.length=g:=by
   apply zv0;intro j;by_cases hj:j<g.length
   ·rw[zvh,zuO hj,h.same j (hS j hj),zq hj]
   ·rw[zvh,zuQ hj,zvK (by omega)]
  conv=>lhs;rw[←zvj g.length g',this]
 exact⟨_,e,fun j=>by rw[zvH]⟩
def ya(l:List Bu)(c y c2 y2 n:Int):Int×List Bu:=
 if¬yQ c y=true∨¬yQ c2 y2=true∨¬za n=true∨(c=c2∧y=y2) then(1,l)
 else if¬za (getD l c y-n)=true∨¬za (getD l c2 y2+n)=true then(6,l)
 else if 12<(jF (jF l c y (getD l c y-n)) c2 y2 (getD l c2 y2+n)).length then(5,l) else(0,jF (jF l c y (getD l c y-n)) c2 y2 (getD l c2 y2+n))
theorem zoH(l:List Bu)(c y n:Int):(jF l c y n).length≤l.length+1:=by have h1:=zv6 (fun b:Bu=> !(b.n==0)) (jZ c y n l);have h2:=zd6 c y n l;unfold jF;omega
theorem zjL{g:XH}{i:Nat}{l:List Bu}(h:YB g i l)(hI:Q8 l)(c y c2 y2 n:Int):Cl C (fun x=>x=i) 145 [.s (.ptr i 0 0),fi c,fi y,fi c2,fi y2,fi n] g fun u g'=>u=fi (ya l c y c2 y2 n).1∧YB g' i (ya l c y c2 y2 n).2∧Upd (fun x=>x=i) g g':=by
 have h1:g[i]? =_:=h;have li:=zf h1;have hl:=hI.1;refine Cl.ip rfl (zuF rfl) fun Ψ hΨ=> ?_;have no:∀n' J,ya l c y c2 y2 n=(n',l)→Gh (fun x=>x=i) g Ψ (fi n') (g++J):=fun n' J e=>qZ (S:=fun x=>x=i) Upd.refl (by simp) (hΨ _ _ ⟨by rw[e],by rw[e];exact h,Upd.refl⟩);have no0:∀n',ya l c y c2 y2 n=(n',l)→Gh (fun x=>x=i) g Ψ (fi n') g:=fun n' e=>by have:=no n' [] e;rwa [zvl] at this
 simp
 repeat' first|(refine zc (fun hc=> ?_) (fun hc=> ?_)<;>try simp)|(refine zb.pure (zke ..) ?_;try simp)|(refine zb.pure (yc ..) ?_;try simp)
 all_goals try (exact no0 1 (by unfold ya;rw[zuO (by simp_all)]))
 all_goals
  have hm:za n=true:=by assumption
  have hcc:¬(c=c2∧y=y2):=by simp_all
  have hp:¬(¬yQ c y=true∨¬yQ c2 y2=true∨¬za n=true∨(c=c2∧y=y2)):=by simp_all
  have e0:ya l c y c2 y2 n=if¬za (getD l c y-n)=true∨¬za (getD l c2 y2+n)=true then(6,l)
   else if 12<(jF (jF l c y (getD l c y-n)) c2 y2 (getD l c2 y2+n)).length then(5,l) else(0,jF (jF l c y (getD l c y-n)) c2 y2 (getD l c2 y2+n)):=by
   unfold ya;rw[zuQ hp]
  refine zb.go0 (zjJ h (by omega) c y) ?_;simp[zrA (hI.get c y) hm];refine zb.go0 (zjJ h (by omega) c2 y2) ?_;simp[Jm (hI.get c2 y2) hm]
  repeat' first|(refine zc (fun hc=> ?_) (fun hc=> ?_)<;>try simp)|(refine zb.pure (yc ..) ?_;try simp)
  all_goals try (exact no0 6 (by rw[e0,zuO (by simp_all)]))
  rw[zuQ (by simp_all)] at e0;refine zb.go (zik h (by omega)) (fun _ _ h=>h.elim) ?_;rintro u g' ⟨rfl,w,rfl⟩;simp;have hj:zli (g++[.own w 261 3 (l.flatMap yb),.own 0 263 1 [.sl g.length w 0 l.length]]) (g.length+1) g.length l:=⟨w,[],fun m=>by simp[zw],by simp,by simp⟩
  refine zb.go (zjM hj (by omega) (by omega) c y (getD l c y-n)) (fun x hx e=> .inl (by rcases e with rfl|rfl<;>omega)) ?_;rintro u g1 ⟨rfl,hj1,hU1⟩;have l1:=zoH l c y (getD l c y-n);simp;refine zb.go (zjM hj1 (by omega) (by omega) c2 y2 (getD l c2 y2+n)) (fun x hx e=> .inl (by rcases e with rfl|rfl<;>omega)) ?_;rintro u g' ⟨rfl,⟨w2,junk,hjk,q1,q2⟩,hU2⟩;have hU:=hU1.trans hU2;generalize jF (jF l c y (getD l c y-n)) c2 y2 (getD l c2 y2+n)=l' at *;have hgi:g'[i]? =g[i]? :=by rw[hU.same i (by omega),zq li]
  simp;refine zb.go (zkV ⟨_,hgi.trans h1⟩ q1 q2) (fun x hx e=> .inr e) ?_;obtain⟨J,rfl,hJ'⟩:=zmx hU (by intro j hj e;omega);have hJ:=(hJ' 0).symm.trans q2;rintro u g2 hu;by_cases h12:12<l'.length
  ·rw[zuO h12] at hu e0;obtain⟨rfl,rfl⟩:=hu;simp;exact no 5 J e0
  ·rw[zuQ h12] at hu e0;obtain⟨rfl,rfl⟩:=hu;simp[li];refine Gh.fz ((FzH.refl (W:=fun x=>x=i) (J:=J)).put i 0 263 1 rfl (.cons (FzV.junk (cs:=l'.flatMap yb) (junk:=junk) (t:=261) (z:=3) (zuL _) (fun j=>by simp) (by rw[zvG];exact hJ) (by rw[zg zR]) (JT _ _) (hjk _)) .nil)) (.s (.lt (by simp))) (hΨ _ _ ⟨by rw[e0],?_,?_⟩)
   ·rw[e0];exact yo li
   ·exact(Upd.refl (S:=fun x=>x=i)).set (i:=i) rfl (by simp[lvO])
theorem ztX(g:XH):Cl C (fun _=>False) 133 [] g fun u g'=>u= .s (.ptr g.length 0 0)∧g'=g++[.own 0 263 1 [.lst 261 3 0 []]]:=by
 refine Cl.ip rfl (zuF rfl) fun Ψ hΨ=> ?_;simp;refine Gh.keep [some 0] [.own 0 263 1 [.lst 261 3 0 []]] ⟨rfl,rfl,fun i o e=> .inl ⟨e,.inl e⟩,rfl,?_,?_⟩ (.s (.kptr (j:=0) (k:=0) rfl)) (hΨ _ _ ⟨by simp,rfl⟩)
 ·intro j j' k e e';have h1:=(zuJ.1 e).1;have h2:=(zuJ.1 e').1;simp at h1 h2;omega
 ·intro j o e;have h1:=(zuJ.1 e).1;obtain rfl:j=0:=by simpa using h1
  simp only[zvt,zuE] at e;exact .inr ⟨0,0,_,_,_,_,rfl,rfl,e.symm,.cons .nil .nil⟩
def yR(v:Vi):List XV:=[xi v.o,xi v.e,xi v.n]
theorem zN(b:Vi):(yR b).length=3:=rfl
theorem zfY(b:Vi)(m:Nat):zw m (yR b):=by simp[yR]
@[simp] theorem JU(m:Nat)(l:List Vi):zw m (l.flatMap yR):=zZ (fun a=>zfY a m) l
def zfz(g:XH)(p:XV)(l:List Vi):Prop:=∃v,(p= .lp [v] 0∨∃i,p= .ptr i 0 0∧g[i]? =some (.own 0 295 1 [v]))∧RdX g 327 3 yR v l
theorem zgq{g:XH}{p:XV}{l:List Vi}(h:zfz g p l)(hl:l.length≤1000):Cl C (fun _=>False) 239 [.s p] g (Zo g 327 3 l.length (l.flatMap yR)):=by
 obtain⟨v,hp,hr⟩:=h;refine Cl.ip rfl (zuF rfl) fun Ψ hΨ=> ?_;have hc:=JQ (f:=300) (y:=24) (zs:=[.int .i64 0,.int .i64 0,.int .i64 0]) rfl rfl rfl zN (by decide) hr (fun a=>zfY a _) (by omega);rcases hp with rfl|⟨i,rfl,hi⟩
 ·simp;refine zb.go hc (fun _ _ h=>h.elim) ?_;rintro u g' ⟨w,rfl,rfl⟩;simp;exact Gh.here (hΨ _ _ ⟨w,rfl,rfl⟩)
 ·have li:=zf hi;simp[hi,li];refine zb.go hc (fun _ _ h=>h.elim) ?_;rintro u g' ⟨w,rfl,rfl⟩;simp;exact Gh.here (hΨ _ _ ⟨w,rfl,rfl⟩)
theorem zhH{g:XH}{p:XV}{l:List Vi}(h:zfz g p l)(hl:l.length≤1000):Cl C (fun _=>False) 170 [.s p] g fun u g'=>u= .s (.ptr (g.length+1) 0 0)∧∃w,g'=g++[.own w 327 3 (l.flatMap yR),.own 0 295 1 [.sl g.length w 0 l.length]]:=by refine Cl.ip rfl (zuF rfl) fun Ψ hΨ=> ?_;simp;refine zb.go (zgq h hl) (fun _ _ h=>h.elim) ?_;rintro u g' ⟨w,rfl,rfl⟩;simp;exact Gh.here (hΨ _ _ ⟨rfl,w,rfl⟩)
theorem zky{g:XH}{p:XV}{l:List Vi}(h:zfz g p l)(hl:l.length≤1000)(hm:∀b∈l,za b.n=true):Cl C (fun _=>False) 221 [.s p] g fun u g'=>u=fi (zx l)∧g'=g:=by
 obtain⟨v,hp,hr⟩:=h;refine Cl.ip rfl (zuF rfl) fun Ψ hΨ=> ?_;have main:∀Φ:Ex→XFr→XH→Prop,(∀s,s=zx l→Φ (.exit 0) [(3,some (fi s))] g)→Lp C (fun i=>g.length≤i∨False) [3,9,10,11] l221_0 [(3,some (fi 0)),(9,some (.s v)),(10,some (fi l.length)),(11,some (fi 0))] g Φ:=fun Φ hΦ=>by
  refine Lp.fold (keep:=[3,9,10,11]) l (fun k s=>[(3,some (fi s)),(9,some (.s v)),(10,some (fi l.length)),(11,some (fi k))]) (fun _ _=>g) (fun s b=>s+b.n) 0 (by decide) (fun _ _=>rfl) ?_ ?_
  ·intro k hk s hs hlt N hN;obtain⟨p,cs,o,b1,b2,b3,b4,_⟩:=hr.at zN (by decide) hk;have w:IntKind.i64.wrap (s+l[k].n)=s+l[k].n:=by
    rw[QE] at hs;have:=zbU Vi.n 100000000000 (by omega) (l.take k) fun b hb=>by simpa[za] using hm b (zvM hb)
    have h2:za l[k].n=true:=hm _ (zvk hk);simp[za] at h2;rw[zu0] at this;exact ze (by omega) (by omega)
   generalize l[k]=x at *;simp[l221_0,hk,b1,b2,b3,b4,yR,w,yN hk (by omega)];exact Jb hN (by simp) (by simpa using hlt)
  ·intro s hs;simp[l221_0];exact hΦ s (by rw[hs,QE];simp[zx])
 rcases hp with rfl|⟨i,rfl,hi⟩
 ·simp[hr.len];refine main _ fun s hs=> ?_;simp;exact Gh.here (hΨ _ _ ⟨by rw[hs],rfl⟩)
 ·have li:=zf hi;simp[hi,li,hr.len];refine main _ fun s hs=> ?_;simp;exact Gh.here (hΨ _ _ ⟨by rw[hs],rfl⟩)
def ziA(o e:Int):Bool:=y5 o&&decide (o≤e∧e≤198)
theorem vinRP(o:Int)(e:Int):Pure C 322 [fi o,fi e] (fb (ziA o e)):=by
 refine Pure.intro0 (e:=e322) rfl (zuF rfl) (by simp) fun g Ψ h0 hJ=> ?_;simp
 repeat' first|(refine zc (fun hc=> ?_) (fun hc=> ?_)<;>try simp)
 all_goals(simp at *;exact Zv h0 (by simp[ziA,y5, *]<;>omega))
theorem keyVP(x:Vi)(c y:Int){g:XH}{a b:Nat}(ha:g[a]? =some (.own 0 3 1 [xi c]))(hb:g[b]? =some (.own 0 3 1 [xi y])):Cl C (fun _=>False) 321 [.agg (yR x),.s (.ptr a 0 0),.s (.ptr b 0 0)] g fun u g'=>u=fb (Yv c y x)∧g'=g:=by
 have la:=zf ha;have lb:=zf hb;refine Cl.ip rfl (zuF rfl) fun Ψ hΨ=> ?_;simp[yR,ha,hb,la,lb]
 repeat' first|(refine zc (fun hc=> ?_) (fun hc=> ?_)<;>try simp[yR,ha,hb,la,lb])
 all_goals(refine Gh.pure (.s (.lt (by simp))) (hΨ _ _ ⟨?_,rfl⟩);simp at *;simp[Yv, *])
theorem zux(x:Vi)(g:XH):Cl C (fun _=>False) 319 [.agg (yR x)] g fun u g'=>u=fb (x.n==0)∧g'=g:=by refine Cl.ip rfl (zuF rfl) fun Ψ hΨ=> ?_;simp[yR];exact Gh.pure (.s (.lt (by simp))) (hΨ _ _ ⟨by simp,rfl⟩)
def JE(g:XH)(i k:Nat)(l:List Vi):Prop:=∃w o cs,g[i]? =some (.own 0 295 1 [.sl k w o l.length])∧g[k]? =some (.own w 327 3 cs)∧(o+l.length)*3≤cs.length∧(cs.drop (o*3)).take (l.length*3)=l.flatMap yR∧∀m,zw m cs
theorem JE.q{g:XH}{i k:Nat}{l:List Vi}(h:JE g i k l):zfz g (.ptr i 0 0) l:=by obtain⟨w,o,cs,h1,h2,h3,h4,_⟩:=h;exact⟨_,.inr ⟨i,rfl,h1⟩,.inr (.inr ⟨k,w,o,cs,rfl,by simp[zL,h2],h3,h4⟩)⟩
theorem zfT{α:Type}{enc:α→List XV}{z:Nat}(he:∀a,(enc a).length=z){cs:List XV}{o:Nat}{l:List α}(h:(cs.drop (o*z)).take (l.length*z)=l.flatMap enc){j:Nat}(hj:j<l.length){c:Nat}(hc:c<z):cs[(o+j)*z+c]? =(enc l[j])[c]? :=by obtain⟨_,_,a3⟩:=atX he hj;rw[←a3 c hc,←h,zvh,zuO,zvH,zvv,zwd];have:(j+1)*z≤l.length*z:=zvf _ hj;rw[zwP] at this;omega
theorem znk{α:Type}{enc:α→List XV}{z:Nat}(he:∀a,(enc a).length=z){cs:List XV}{o:Nat}{x:α}{l:List α}(h:(cs.drop (o*z)).take ((x::l).length*z)=(x::l).flatMap enc):(cs.drop ((o+1)*z)).take (l.length*z)=l.flatMap enc:=by have e:=congrArg (List.drop z) h;rw[zvN,←he x,List.drop_left' rfl,he x,zw0,zwZ,zvr,zwP,zxM] at e;rw[zwP];exact e
def qu(y:Int):List Vi→Int
 |[]=>0
 |v::l=>if v.e<y then v.n+qu y l else 0
def yD(y:Int):List Vi→List Vi
 |[]=>[]
 |v::l=>if v.e<y then yD y l else v::l
theorem zlZ{g:XH}{i k:Nat}{l:List Vi}(h:JE g i k l)(hne:i≠k)(hl:l.length≤1000)(hm:∀b∈l,za b.n=true)(y:Int):Cl C (fun x=>x=i) 278 [.s (.ptr i 0 0),fi y] g fun u g'=>u=fi (qu y l)∧JE g' i k (yD y l)∧Upd (fun x=>x=i) g g':=by
 obtain⟨w,o,cs,hi,hk,h3,h4,h5⟩:=h;have li:=zf hi;have lk:=zf hk;refine Cl.ip rfl (zuF rfl) fun Ψ hΨ=> ?_;simp;refine Sc.rule rfl (fun n fr g'=>∃(o:Nat) (r:List Vi) (s:Int),n=r.length∧qu y l=s+qu y r∧yD y l=yD y r∧(∀b∈r,za b.n=true)∧(o+r.length)*3≤cs.length∧(cs.drop (o*3)).take (r.length*3)=r.flatMap yR∧-(100000000000*((l.length:Int)-r.length))≤s∧s≤100000000000*((l.length:Int)-r.length)∧fr=[(0,some (.s (.ptr i 0 0))),(1,some (fi y)),(5,some (fi s))]∧g'=g.set i (.own 0 295 1 [.sl k w o r.length])) l.length [(0,some (.s (.ptr i 0 0))),(1,some (fi y)),(5,some (fi 0))] g ?_ ?_ ?_
 ·simp
 ·exact⟨o,l,0,rfl,by simp,rfl,hm,h3,h4,by omega,by omega,rfl,(jc hi).symm⟩
 ·rintro n fr g' ⟨o,r,s,rfl,e1,e2,hm,h3,h4,s1,s2,rfl,rfl⟩ hlt P hP;have u:Upd (fun x=>x=i) g (g.set i (.own 0 295 1 [.sl k w o r.length])):=(Upd.refl (S:=fun x=>x=i)).set (i:=i) rfl (by simp[lvO,lk]);have fin:qu y l=s→yD y l=r→Gh (fun x=>x=i) g Ψ (fi s) (g.set i (.own 0 295 1 [.sl k w o r.length])):=fun q1 q2=>by
   refine Gh.here (hΨ _ _ ⟨by rw[q1],?_,u⟩);rw[q2];exact⟨w,o,cs,yo li,by rw[zH hne];exact hk,h3,h4,h5⟩
  cases r with
  |nil=>
   simp[li,lk,hne,hne.symm,hk];exact fin (by rw[e1];simp[qu]) (by rw[e2];rfl)
  |cons v r=>
   have c1:=zfT zN h4 (j:=0) (by simp) (c:=1) (by decide);have c2:=zfT zN h4 (j:=0) (by simp) (c:=2) (by decide);have ct:=znk zN h4;simp[yR] at c1 c2;have hv:=hm v (by simp);have hw:IntKind.i64.wrap (s+v.n)=s+v.n:=by simp[za] at hv;simp at s1 s2;exact ze (by omega) (by omega)
   simp at h3 hlt;have hcs:¬cs=[]:=fun e=>by rw[e] at h3;simp at h3
   simp[li,lk,hne,hne.symm,hk,c1,c2];refine zc (fun hc=> ?_) (fun hc=> ?_)
   ·simp at hc;simp[li,lk,hne,hne.symm,hk,c1,c2,hw,hcs];refine hP r.length _ _ (by simp) ⟨_,[],(zvl _).symm,by simp,?_,?_,o+1,r,s+v.n,rfl,?_,?_,fun b hb=>hm b (by simp[hb]),by omega,ct,?_,?_,rfl,rfl⟩
    ·simpa using hlt
    ·intro j o' hj e;by_cases hji:i=j
     ·subst hji;rw[yo li] at e;exact .inr (zuG e▸by simp[lvO,lk])
     ·rw[zH hji] at e;exact .inl (by rw[zH hji];exact e)
    ·rw[e1];simp[qu,hc];omega
    ·rw[e2];simp[yD,hc]
    ·simp[za] at hv;simp at s1;omega
    ·simp[za] at hv;simp at s2;omega
   ·simp at hc;simp;exact fin (by rw[e1];simp[qu,show¬v.e<y by omega]) (by rw[e2];simp[yD,show¬v.e<y by omega])
def cB(b:Bu):List SV:=[.int .i64 b.c,.int .i64 b.y,.int .i64 b.n]
theorem zkf(l:List Bu):(l.flatMap cB).map XV.v=l.flatMap yb:=by rw[zxi];rfl
theorem ltK_B(a b:Bu):ltK [0,1] (cB a) (cB b)=ltB a b:=by simp[ltK,cB,ltB]
theorem zq9{g:XH}{i:Nat}{l:List Bu}(h:YB g i l)(hl:l.length≤1000)(hd:jH ltB l=true):Cl C (fun _=>False) 218 [.s (.ptr i 0 0)] g fun u g'=>u= .s (.lst 261 3 l.length ((zt ltB l).flatMap yb))∧g'=g:=by have h1:g[i]? =_:=h;have li:=zf h1;refine Cl.ip rfl (zuF rfl) fun Ψ hΨ=> ?_;simp[h1,li];refine zb.go (JQ (enc:=yb) (z:=3) (l:=l) rfl rfl rfl zR (by decide) (RdX.lst g l) (fun a=>zaH a _) (by omega)) (fun _ _ h=>h.elim) ?_;rintro u g' ⟨w,rfl,rfl⟩;simp;refine zb.go (zbf (o:=0) (enc:=cB) (lta:=ltB) rfl (fun _=>rfl) (by decide) (fun a v hv=>by simp[cB] at hv;rcases hv with rfl|rfl|rfl<;>rfl) (fun _=>rfl) ltK_B (l:=l) (cs:=l.flatMap yb) (w:=w) (k:=g.length) (by simp) (by rw[zvn,zg zR];exact zuL _) (by rw[zvP,zu8,←zg zR,zve,zkf]) hd (by omega)) (fun x hx e=> .inl (by omega)) ?_;rintro u g' ⟨rfl,rfl⟩;rw[zkf,zvP,ZX (by rw[zg zR,zg zR,zJ])];simp;exact Gh.pure (.s (.full (zuL _) (fun j=>by simp) (by simp) (by rw[zg zR,zJ]) (.lts (JT _ _)))) (hΨ _ _ ⟨rfl,rfl⟩)
theorem jW{α:Type}{enc:α→List XV}{z:Nat}(he:∀a,(enc a).length=z){l:List α}{k:Nat}(hk:k<l.length){c:Nat}(hc:c<z){v:XV}{x:α}(hx:(enc l[k]).set c v=enc x)(junk:List XV):(l.flatMap enc++junk).set (k*z+c) v=(l.set k x).flatMap enc++junk:=by
 rw[←zbv he hk,←hx];have e1:l=l.take k++l[k]::l.drop (k+1):=by rw[←zvq hk,zvj]
 have l1:((l.take k).flatMap enc).length=k*z:=by rw[zg he,zu0,zvu (by omega)]
 generalize l[k]=y at *;rw[e1];simp only[zvw,zvN,zvc];generalize(l.take k).flatMap enc=P at *;generalize(l.drop (k+1)).flatMap enc=Q at *;rw[←l1,ZY ((enc y).set c v) (enc y) (Q++junk) P (by simp),zvO _ _ (by omega),show P.length+c-P.length=c by omega,zxA _ _ (by rw[he];exact hc)]
theorem zqu{g r:XH}{x:XO}{k:Nat}(h:k=g.length):(g++x::r)[k]? =some x:=by subst h;exact YG
abbrev zY(n:Int):List XV:=[xi n]
theorem zG(n:Int):(zY n).length=1:=rfl
@[simp] theorem znp(m:Nat)(l:List Int):zw m (l.flatMap zY):=zZ (fun a=>by simp[zY]) l
def Yd(v:Vi)(n:Int):Vi:={v with n:=v.n-n}
structure Upg(S:Nat→Prop)(g g':XH):Prop where
 le:g.length≤g'.length
 same:∀j:Nat,j<g.length→¬S j→g'[j]? =g[j]?
theorem zbV(l:List Vi)(us:List Int):Q6 l us=(List.zipWith Yd l us).filter fun v=> !(v.n==0):=by unfold Q6;rw[List.zip,List.map_zipWith];congr 1
theorem zqK{g:XH}{i k:Nat}{l:List Vi}(h:JE g i k l)(hne:i≠k)(hl:l.length≤1000){uv:XV}{us:List Int}(hu:RdX g 3 1 zY uv us)(hlen:us.length=l.length)(hok:∀j (h1:j<us.length) (h2:j<l.length),0≤us[j]∧us[j]≤l[j].n∧za l[j].n=true):Cl C (fun x=>x=i) 282 [.s (.ptr i 0 0),.s uv] g fun u g'=>u=fi 0∧∃k',g.length≤k'∧i≠k'∧JE g' i k' (Q6 l us)∧Upg (fun x=>x=i) g g':=by
 have hQ:=h.q;obtain⟨w,o,cs,hi,hk,h3,h4,h5⟩:=h;have li:=zf hi;have lk:=zf hk;refine Cl.ip rfl (zuF rfl) fun Ψ hΨ=> ?_;simp[hu.len,hi,hk,li,lk,hlen];refine Lp.gen (keep:=[0,1,18,19,20]) us.length (fun q (_:Unit)=>[(0,some (.s (.ptr i 0 0))),(1,some (.s uv)),(18,some (.s uv)),(19,some (fi (l.length:Int))),(20,some (fi (q:Int)))]) (fun _ _=>g) (fun _ _=>True) () (by decide) (fun _ _=>rfl) trivial ?_ ?_
 ·intro q hq _ _ hlt N hN;have hql:q<l.length:=by omega
  obtain⟨p,cs',o',b1,b2,b3,b4,b5⟩:=hu.at zG (by decide) hq;have b6:=b5 rfl _ rfl;have c2:=zfT zN h4 hql (c:=2) (by decide);obtain⟨q1,q2,q3⟩:=hok q hq hql;simp[yR] at c2;generalize us[q]=un at *;generalize l[q]=lv at *;simp[l282_0,hql,b1,b2,b6,hi,hk,li,lk,c2,show¬un<0 by omega,show¬lv.n<un by omega,yN hq (by omega)];exact qJ () hN trivial (by simp) (by simpa using hlt)
 ·intro _ _;rw[hlen];simp[l282_0];refine zb.go (zgq hQ hl) (fun _ _ h=>h.elim) ?_;rintro u g' ⟨w1,rfl,rfl⟩;have hu':RdX (g++[XO.own w1 327 3 (l.flatMap yR)]) 3 1 zY uv us:=hu.app;simp[hu'.len,hlen];refine Lp.gen (keep:=[0,7,42,43,44]) us.length (fun q (_:Unit)=>[(0,some (.s (.ptr i 0 0))),(7,some (.s (.sl g.length w1 0 l.length))),(42,some (.s uv)),(43,some (fi (l.length:Int))),(44,some (fi (q:Int)))]) (fun q _=>g++[.own w1 327 3 ((List.zipWith Yd (l.take q) (us.take q)++l.drop q).flatMap yR)]) (fun _ _=>True) () (by decide) (fun _ _=>rfl) trivial ?_ ?_
  ·intro q hq _ _ hlt N hN;have hql:q<l.length:=by omega
   have hu'':RdX (g++[XO.own w1 327 3 ((List.zipWith Yd (l.take q) (us.take q)++l.drop q).flatMap yR)]) 3 1 zY uv us:=hu.app;obtain⟨p,cs',o',b1,b2,b3,b4,b5⟩:=hu''.at zG (by decide) hq;have b6:=b5 rfl _ rfl;obtain⟨q1,q2,q3⟩:=hok q hq hql;obtain⟨M,hM⟩:∃M,M=List.zipWith Yd (l.take q) (us.take q)++l.drop q:=⟨_,rfl⟩
   have hMl:M.length=l.length:=by rw[hM];simp;omega
   have hzl:(List.zipWith Yd (l.take q) (us.take q)).length=q:=by simp;omega
   have hMq:M[q]'(by omega)=l[q]:=by
    have e:M[q]? =l[q]? :=by rw[hM,zuN (by omega),hzl,zvG,zvH,zwa]
    rw[zuV (by omega),zuV hql] at e;exact zuG e
   have hM2:List.zipWith Yd (l.take (q+1)) (us.take (q+1))++l.drop (q+1)=M.set q (Yd l[q] us[q]):=by have e1:l.take (q+1)=l.take q++[l[q]]:=zu6 hql;have e2:us.take (q+1)=us.take q++[us[q]]:=zu6 hq;rw[hM,e1,e2,List.zipWith_append (by simp;omega),zvO _ _ (by omega),hzl,zvG,zvq hql,zvc];rfl
   rw[hM2] at hN;rw[←hM] at hN hlt b1 b2⊢;obtain⟨a1,a2,a3⟩:=atX zN (l:=M) (k:=q) (by omega);have a4:=a3 2 (by decide);rw[hMq] at a4;have hs:=jW zN (l:=M) (k:=q) (by omega) (c:=2) (by decide) (v:=xi (l[q].n-us[q])) (x:=Yd l[q] us[q]) (by rw[hMq];rfl) [];simp only[zvl] at hs;have hcs:¬M.flatMap yR=[]:=fun e=>by rw[e] at a1;simp at a1
   have hw:IntKind.i64.wrap (l[q].n-us[q])=l[q].n-us[q]:=by simp[za] at q3;exact ze (by omega) (by omega)
   have ha3:q*3+2+1≤(M.flatMap yR).length:=by omega
   have hv2:=fun m=>JU m (M.set q (Yd l[q] us[q]));generalize M.flatMap yR=MC at *;generalize(M.set q (Yd l[q] us[q])).flatMap yR=MC2 at *;simp[yR] at a4;generalize us[q]=un at *;generalize l[q]=lv at *;simp[l282_1,hql,b1,b2,b6,a4,hs,hcs,hw,ha3,yN hq (by omega)];refine hN () _ _ trivial ⟨by simp,⟨[],by simp⟩,by simp,?_,?_⟩
   ·simpa using hlt
   ·exact .loc (by simp[lvO,hv2])
  ·intro _ _;rw[hlen,zve,zvA (by omega),zxV,zvl];have hz:(List.zipWith Yd l us).length=l.length:=by simp;omega
   have hdel:=zcz (f:=318) (fi':=320) (c:= .v (.fn 319)) (q:=fun b=>b.n==0) rfl rfl (by decide) rfl rfl zN (g:=g++[XO.own w1 327 3 ((List.zipWith Yd l us).flatMap yR)]) (l:=List.zipWith Yd l us) (k:=g.length) (w:=w1) (junk:=[]) (by simp) (by omega) zfY (fun m=>by simp[zw]) (fun cells J=> .inl ⟨_,rfl,fun x _=>zux x _⟩);rw[hz] at hdel;simp[l282_1];refine zb.go hdel (fun x hx e=> .inl (by omega)) ?_;rintro u g' ⟨junk,hj,rfl,rfl⟩;have ht:=zbV l us;rw[←ht];simp[li,hi];refine Gh.here (hΨ _ _ ⟨rfl,g.length,zuL _,by omega,⟨w1,0,(Q6 l us).flatMap yR++junk,by rw[zq (by simpa using li)];exact yo li,?_,?_,?_,?_⟩,⟨by simp,?_⟩⟩)
   ·exact zqu (by simp)
   ·rw[zuM,zg zN,zvn];exact zwY _ _
   ·rw[zvP,zu8,←zg zN,zv8];rfl
   ·exact fun m=>qh.2 ⟨JU m _,hj m⟩
   ·intro j hj hs;rw[zq (by simpa using hj),zH (by omega)]
section
attribute [-simp] zbr
theorem zlz{α:Type}{enc:α→List XV}{z:Nat}(he:∀a,(enc a).length=z){cs:List XV}{o:Nat}{l:List α}(h1:(o+l.length)*z≤cs.length)(h2:(cs.drop (o*z)).take (l.length*z)=l.flatMap enc):∃pre post,cs=pre++(l.flatMap enc++post)∧pre.length=o*z:=by
 refine⟨cs.take (o*z),(cs.drop (o*z)).drop (l.length*z),?_,?_⟩
 ·rw[←h2,zvj,zvj]
 ·rw[zvv] at h1;rw[zu0];omega
def cV(b:Vi):List SV:=[.int .i64 b.o,.int .i64 b.e,.int .i64 b.n]
theorem zki(l:List Vi):(l.flatMap cV).map XV.v=l.flatMap yR:=by rw[zxi];rfl
theorem ltK_V(a b:Vi):ltK [1,0] (cV a) (cV b)=ltV a b:=by simp[ltK,cV,ltV]
theorem zhe{α:Type}{lt:α→α→Bool}{x:α}:∀{l:List α},jH lt l=true→(∀y∈l,(lt y x||lt x y)=true)→jH lt (l++[x])=true
 |[],_,_=>rfl
 |y::l,h,k=>by
  simp only[jH,zuP,zu4] at h;simp only[zv5,jH,zuP,zu4];refine⟨fun b hb=> ?_,zhe h.2 fun b hb=>k b (by simp[hb])⟩;rcases zuY.1 hb with hb|hb
  ·exact h.1 b hb
  ·obtain rfl:b=x:=by simpa using hb
   exact k y (by simp)
def QT(o e n:Int):List Vi→List Vi
 |[]=>[]
 |x::l=>if Yv o e x then⟨x.o,x.e,x.n+n⟩::l else x::QT o e n l
theorem zdo(o e n:Int):∀(l:List Vi) (k:Nat),(ym (Yv o e) k l= -1∧l.any (Yv o e)=false)∨∃i,ym (Yv o e) k l=((k+i:Nat):Int)∧l.any (Yv o e)=true∧∃h:i<l.length,QT o e n l=l.set i ⟨l[i].o,l[i].e,l[i].n+n⟩
 |[],k=> .inl ⟨rfl,rfl⟩
 |x::l,k=>by
  unfold ym QT;cases hx:Yv o e x with
  |true=>exact .inr ⟨0,rfl,by simp[hx],zx2 _,by simp⟩
  |false=>
   rcases zdo o e n l (k+1) with⟨e1,e2⟩|⟨i,e1,e2,e3,e4⟩
   ·exact .inl ⟨by simp[e1],by simp[hx,e2]⟩
   ·exact .inr ⟨i+1,by simp[e1];omega,by simp[hx,e2],by simpa using e3,by simp[e4]⟩
def QQ(l:List Vi)(o e n:Int):Int×List Vi:=
 if¬ziA o e=true∨n<1∨¬za n=true then(1,l)
 else if¬za (zx l+n)=true then(6,l)
 else if l.any (Yv o e) then(0,QT o e n l)
 else if 12≤l.length then(5,l)
 else(0,zt ltV (l++[⟨o,e,n⟩]))
theorem zfz.app{g J:XH}{p:XV}{l:List Vi}(h:zfz g p l):zfz (g++J) p l:=by
 obtain⟨v,h1|⟨i,h1,h2⟩,h3⟩:=h
 ·exact⟨v,.inl h1,h3.app⟩
 ·exact⟨v,.inr ⟨i,h1,by rw[zq (zf h2)];exact h2⟩,h3.app⟩
theorem ztr{g:XH}{i k:Nat}{l:List Vi}(h:JE g i k l)(hne:i≠k)(hl:l.length≤1000)(hm:∀b∈l,za b.n=true)(hL:za (zx l)=true)(hd:jH ltV l=true)(o' e' n:Int):Cl C (fun x=>x=i∨x=k) 283 [.s (.ptr i 0 0),fi o',fi e',fi n] g fun u g'=>u=fi (QQ l o' e' n).1∧JE g' i k (QQ l o' e' n).2∧Upd (fun x=>x=i∨x=k) g g':=by
 have hM:=h;have hQ:=h.q;obtain⟨w,o,cs,hi,hk,h3,h4,h5⟩:=h;have li:=zf hi;have lk:=zf hk;have hr:RdX g 327 3 yR (.sl k w o l.length) l:= .inr (.inr ⟨k,w,o,cs,rfl,by simp[zL,hk],h3,h4⟩);refine Cl.ip rfl (zuF rfl) fun Ψ hΨ=> ?_;have no:∀n' J,QQ l o' e' n=(n',l)→Gh (fun x=>x=i∨x=k) g Ψ (fi n') (g++J):=fun n' J q=>qZ (S:=fun x=>x=i∨x=k) Upd.refl (by simp) (hΨ _ _ ⟨by rw[q],by rw[q];exact hM,Upd.refl⟩);simp[hi,hk,li,lk];refine zb.go0 (Yu (f:=320) rfl zN (by decide) hr.app (by omega) (.inr ⟨g.length+2,321,[],[.s (.ptr g.length 0 0),.s (.ptr (g.length+1) 0 0)],rfl,by simp,fun x _=>keyVP x o' e' (by simp) (by simp)⟩)) ?_;simp
 repeat' first|(refine zc (fun hc=> ?_) (fun hc=> ?_)<;>try simp)|(refine zb.pure (vinRP ..) ?_;try simp)|(refine zb.pure (yc ..) ?_;try simp)
 all_goals try ((try simp only[zuW,zvY] at *);exact no 1 _ (by unfold QQ;rw[zuO (by clear no hΨ;simp_all)]))
 have hn:za n=true:=by assumption
 have hp:¬(¬ziA o' e'=true∨n<1∨¬za n=true):=by clear no hΨ;simp_all
 have e0:QQ l o' e' n=if¬za (zx l+n)=true then(6,l)
  else if l.any (Yv o' e') then(0,QT o' e' n l)
  else if 12≤l.length then(5,l)
  else(0,zt ltV (l++[⟨o',e',n⟩])):=by unfold QQ;rw[zuQ hp]
 refine zb.go0 (zky hQ.app hl hm) ?_;simp[Jm hL hn];refine zb.pure (yc ..) ?_;simp;refine zc (fun hc=> ?_) (fun hc=> ?_)
 rotate_left
 ·simp;exact no 6 _ (by rw[e0,zuO (by simp[hc])])
 simp;rw[zuQ (by simp[hc])] at e0;rcases zdo o' e' n l 0 with⟨q1,q2⟩|⟨j,q1,q2,hj,q3⟩
 ·rw[q2] at e0;rw[zuQ (by simp)] at e0;simp[q1,hi,hk,li,lk];refine zc (fun hc=> ?_) (fun hc=> ?_)
  ·simp at hc;simp;exact no 5 _ (by rw[e0,zuO (by omega)])
  ·simp at hc;rw[zuQ (by omega)] at e0;have hcut:zbr cs o l.length 3=l.flatMap yR:=by rw[zaD,h4]
   simp[hi,hk,li,lk,hne,hne.symm,h3,hcut,show(l.length+1)*24≤140737488355328 by omega,show∀a b d:XV,zbr [a,b,d] 0 1 3=[a,b,d] from fun _ _ _=>rfl];have hda:jH ltV (l++[⟨o',e',n⟩])=true:=zhe hd fun y hy=>by rw[List.any_eq_false] at q2;have:=q2 y hy;simp[Yv] at this;simp[ltV];omega
   have f1:(l++[(⟨o',e',n⟩:Vi)]).flatMap yR=l.flatMap yR++[xi o',xi e',xi n]:=by simp[yR]
   have:=zbf (C:=C) (f:=323) (t:=327) (z:=3) (cf:=324) (lt:=ltK [1,0]) (okr:=okT [true,true,true]) (o:=0) (enc:=cV) (lta:=ltV) rfl (fun _=>rfl) (by decide) (fun a v hv=>by simp[cV] at hv;rcases hv with rfl|rfl|rfl<;>rfl) (fun _=>rfl) ltK_V (l:=l++[⟨o',e',n⟩]) (cs:=l.flatMap yR++[xi o',xi e',xi n]) (w:=w+1) (k:=k) (g:=(g.set k (.own (w+1) 327 3 (l.flatMap yR++[xi o',xi e',xi n]))).set i (.own 0 295 1 [.sl k (w+1) 0 (l.length+1)])++[.own 0 3 1 [xi o'],.own 0 3 1 [xi e'],.clo 321 [] [.s (.ptr g.length 0 0),.s (.ptr (g.length+1) 0 0)],.own 0 327 3 [xi o',xi e',xi n]]) (by simp[lk,hne,hne.symm]) (by rw[zvn,←f1,zg zN];exact zuL _) (by rw[zvP,zu8,←f1,←zg zN,zve,zki]) hda (by simp;omega);rw[zuM,zuS] at this;refine zb.go this (fun x hx e=> .inr (.inr e)) ?_;rintro u g' ⟨rfl,rfl⟩;rw[zki,zvP,ZX (by rw[←f1,zg zN,zg zN,zJ])];have u:Upd (fun x=>x=i∨x=k) g (((g.set k (.own (w+1) 327 3 (l.flatMap yR++[xi o',xi e',xi n]))).set i (.own 0 295 1 [.sl k (w+1) 0 (l.length+1)])).set k (.own (w+1) 327 3 ((zt ltV (l++[⟨o',e',n⟩])).flatMap yR))):=((Upd.refl.set (.inr rfl) (by simp[lvO])).set (.inl rfl) (by simp[lvO,lk])).set (.inr rfl) (by simp[lvO]);simp[lk];refine qZ u (by simp) (hΨ _ _ ⟨by rw[e0],?_,u⟩);rw[e0];refine⟨w+1,0,(zt ltV (l++[⟨o',e',n⟩])).flatMap yR,?_,?_,?_,?_,fun m=>JU m _⟩
   ·rw[zH hne.symm,yo (by simpa using li),zJ];simp
   ·exact yo (by simpa using lk)
   ·rw[zg zN,zvn];exact zuL _
   ·rw[zvP,zu8,←zg zN,zve]
 ·rw[zvn] at q1;rw[q2,zuO rfl] at e0;obtain⟨pre,post,hcs,hpre⟩:=zlz zN h3 h4;have c2:=zfT zN h4 hj (c:=2) (by decide);simp[yR] at c2;have hjm:l[j]∈l:=zvk hj;have hw:IntKind.i64.wrap (l[j].n+n)=l[j].n+n:=Jm (hm _ hjm) hn;have hcl:(o+j)*3+2+1≤cs.length:=by
   have:(o+j+1)*3≤(o+l.length)*3:=zvf _ (by omega);omega
  have hcn:¬cs=[]:=fun e=>by rw[e] at hcl;simp at hcl
  have hset:cs.set ((o+j)*3+2) (xi (l[j].n+n))=pre++((QT o' e' n l).flatMap yR++post):=by rw[hcs,zvO _ _ (by omega),show(o+j)*3+2-pre.length=j*3+2 by omega,jW zN hj (c:=2) (by decide) (x:=⟨l[j].o,l[j].e,l[j].n+n⟩) rfl,q3]
  have hpl:(QT o' e' n l).length=l.length:=by rw[q3,zvi]
  have hpost:∀m,zw m post:=fun m=>by have:=h5 m;rw[hcs,qh,qh] at this;exact this.2.2
  have hprel:∀m,zw m pre:=fun m=>by have:=h5 m;rw[hcs,qh] at this;exact this.1
  simp[q1,hi,hk,li,lk,hne,hne.symm,hj,c2,hw,hcl,hcn,hset];have u:Upd (fun x=>x=i∨x=k) g (g.set k (.own w 327 3 (pre++((QT o' e' n l).flatMap yR++post)))):=Upd.refl.set (.inr rfl) (by simp[lvO,hpost,hprel]);refine qZ u (by simp) (hΨ _ _ ⟨by rw[e0],?_,u⟩);rw[e0];refine⟨w,o,pre++((QT o' e' n l).flatMap yR++post),?_,yo lk,?_,?_,fun m=>by simp[hprel,hpost]⟩
  ·rw[zH hne.symm,hi,hpl]
  ·rw[hcs] at h3;simp only[zuM,zg zN,hpl] at h3⊢;exact h3
  ·rw[List.drop_left' hpre,←zg zN,zv8];rfl
end
def Jw(l:List Int):Bool:=l.all za&&za l.sum
theorem zav{α:Type}{q:α→Bool}{l:List α}{k:Nat}(hk:k<l.length):(l.take (k+1)).all q=((l.take k).all q&&q l[k]):=by rw[zu6 hk,List.all_append];simp
theorem zq6{g:XH}{v:XV}{l:List Int}(hr:RdX g 3 1 zY v l)(hl:l.length≤1000):Cl C (fun _=>False) 316 [.s v] g fun u g'=>u= .tup [fi (if Jw l then l.sum else 0),fb (Jw l)]∧g'=g:=by
 refine Cl.ip rfl (zuF rfl) fun Ψ hΨ=> ?_;simp[hr.len];refine Lp.gen (keep:=[4,7,8,9]) l.length (fun k s=>[(4,some (fi s)),(7,some (.s v)),(8,some (fi l.length)),(9,some (fi (k:Int)))]) (fun _ _=>g) (fun k s=>s=(l.take k).sum∧(l.take k).all za=true) 0 (by decide) (fun _ _=>rfl) (by simp) ?_ ?_
 ·rintro k hk s ⟨rfl,ha⟩ hlt N hN;obtain⟨p,cs,o,b1,b2,b3,b4,b5⟩:=hr.at zG (by decide) hk;have b6:=b5 rfl _ rfl;have hall:=zav (q:=za) hk;have hsum:(l.take (k+1)).sum=(l.take k).sum+l[k]:=by rw[zu6 hk,zwJ,zxL]
  have hb:=zbU (fun n:Int=>n) 100000000000 (by omega) (l.take k) fun b hb=>by simpa[za] using(zu4.1 ha) b hb
  rw[zu0] at hb;simp only[List.map_id'] at hb;have hx:l[k]∈l:=zvk hk;simp[l316_0,hk,b1,b2,b6];refine zb.pure (yc ..) ?_;simp;refine zc (fun hc=> ?_) (fun hc=> ?_)
  ·have hw:IntKind.i64.wrap ((l.take k).sum+l[k])=(l.take k).sum+l[k]:=by
    simp[za] at hc;exact ze (by omega) (by omega)
   simp[hw,yN hk (by omega)];exact qJ ((l.take k).sum+l[k]) hN ⟨hsum.symm,by rw[hall,ha,hc];rfl⟩ (by simp) (by simpa using hlt)
  ·have e:Jw l=false:=by
    unfold Jw;rw[zw3];left;rw[zxr];exact⟨_,hx,by simp[hc]⟩
   simp;exact Gh.here (hΨ _ _ ⟨by simp[e],rfl⟩)
 ·rintro s ⟨rfl,ha⟩;rw[zve] at ha⊢;simp[l316_0];refine zb.pure (yc ..) ?_;simp;refine zc (fun hc=> ?_) (fun hc=> ?_)
  ·simp;exact Gh.here (hΨ _ _ ⟨by simp[Jw,ha,hc],rfl⟩)
  ·simp;exact Gh.here (hΨ _ _ ⟨by simp[Jw,ha,hc],rfl⟩)
def Jv(book perm moved:Int):Bool:=za moved&&Jw [book,perm,-moved]
theorem zqA(b p m:Int):Pure C 277 [fi b,fi p,fi m] (.tup [fi (if Jv b p m then b+p-m else 0),fb (Jv b p m)]):=by
 refine Pure.intro0 (e:=e277) rfl (zuF rfl) (by simp) fun g Ψ h0 hJ=> ?_;simp;refine zb.pure (yc ..) ?_;simp;refine zc (fun hc=> ?_) (fun hc=> ?_)
 ·have hw:IntKind.i64.wrap (-m)= -m:=by
   simp[za] at hc;exact ze (by omega) (by omega)
  simp[hw];have hr:RdX (g++[XO.own 0 3 1 [xi b,xi p,xi (-m)]]) 3 1 zY (.sl g.length 0 0 3) [b,p,-m]:=RdX.sl (l:=[b,p,-m]) zG (by simp);refine zb.go0 (zq6 hr (by simp)) ?_;simp;have e:Jv b p m=Jw [b,p,-m]:=by simp[Jv,hc]
  refine Zv (hJ _) ?_;rw[e];simp[zw2,zxR]
 ·simp;exact Zv h0 (by simp[Jv,hc])
def Zt(n r:Int):Bool:=za n&&decide (0≤n)&&zn r
theorem ztb(n r:Int):Pure C 317 [fi n,fi r] (.tup [fi (if Zt n r then(n*r).tdiv 1000000 else 0),fb (Zt n r)]):=by
 refine Pure.intro0 (e:=e317) rfl (zuF rfl) (by simp) fun g Ψ h0 hJ=> ?_;simp
 repeat' first|(refine zc (fun hc=> ?_) (fun hc=> ?_)<;>try simp)|(refine zb.pure (yc ..) ?_;try simp)|(refine zb.pure (Zc ..) ?_;try simp)
 all_goals(refine Zv h0 ?_)
 all_goals try (have hf:Zt n r=false:=(by(try simp only[zuW,zvY] at *);simp[Zt, *]<;>omega);simp[hf];done)
 ·have hn:za n=true:=by assumption
  have hr:zn r=true:=by assumption
  have h0':0≤n:=by simp at *;omega
  have hf:Zt n r=true:=by simp[Zt, *]
  have hn':=hn;have hr':=hr;simp[za] at hn';simp[zn] at hr';have b:=ZQ (n:=n) (r:=r) (N:=100000000000) (R:=1000000) (by omega) (by omega) (by omega);have w:IntKind.i64.wrap (n*r)=n*r:=ze (by omega) (by omega);rw[hf,w];simp;exact zgW (by unfold zlS;omega) 1000000 (by omega)
def jE(n m:Int):Int:=if 1≤n∧Zt n m=true then(n*m).tdiv 1000000 else 0
theorem zt1(n m:Int):Pure C 280 [fi n,fi m] (fi (jE n m)):=by
 refine Pure.intro0 (e:=e280) rfl (zuF rfl) (by simp) fun g Ψ h0 hJ=> ?_;simp
 repeat' first|(refine zc (fun hc=> ?_) (fun hc=> ?_)<;>try simp)|(refine zb.pure (ztb ..) ?_;try simp)
 all_goals(refine Zv h0 ?_;simp at *)
 ·simp[jE,show¬1≤n by omega]
 ·simp[jE,show 1≤n by omega]
def qk(y left:Int)(v:Vi):Int:=if y≤v.e then min v.n left else 0
def qd(y:Int):Int→List Vi→List Int
 |_,[]=>[]
 |left,v::l=>qk y left v::qd y (left-qk y left v) l
def Js(y:Int):Int→List Vi→Int
 |left,[]=>left
 |left,v::l=>Js y (left-qk y left v) l
theorem zfu(y:Int):∀(l:List Vi) (left:Int) (k:Nat) (hk:k<l.length),qd y left (l.take (k+1))=qd y left (l.take k)++[qk y (Js y left (l.take k)) l[k]]∧Js y left (l.take (k+1))=Js y left (l.take k)-qk y (Js y left (l.take k)) l[k]
 |[],_,k,hk=>by simp at hk
 |v::l,left,0,_=>by simp[qd,Js]
 |v::l,left,k+1,hk=>by have:=zfu y l (left-qk y left v) k (by simpa using hk);simp only[zu3,qd,Js,zwg,zv5];exact⟨by rw[this.1],this.2⟩
theorem YR(y:Int):∀(l:List Vi) (left:Int),(qd y left l).length=l.length
 |[],_=>rfl
 |v::l,left=>by simp[qd,YR y l]
theorem zhB(y:Int):∀(l:List Vi) (left:Int),0≤left→(∀v∈l,0≤v.n)→0≤Js y left l∧Js y left l≤left
 |[],_,h,_=>⟨h,Int.le_refl _⟩
 |v::l,left,h,hv=>by
  have h0:=hv v (by simp);have:0≤qk y left v∧qk y left v≤left:=by unfold qk;split<;>omega
  have:=zhB y l (left-qk y left v) (by omega) fun x hx=>hv x (by simp[hx]);simp only[Js];omega
theorem zmy{g:XH}{v:XV}{l:List Vi}(hr:RdX g 327 3 yR v l)(hl:l.length≤1000)(y room:Int)(hroom:0≤room∧room≤100000000000)(hm:∀v∈l,0≤v.n∧za v.n=true):Cl C (fun _=>False) 279 [.s v,fi y,fi room] g (Zo g 3 1 l.length ((qd y room l).flatMap zY)):=by
 refine Cl.ip rfl (zuF rfl) fun Ψ hΨ=> ?_;have hmax:(if 0<room then room else 0)=room:=by split<;>omega
 simp[hr.len,hmax];refine Lp.ghost 3 1 (fr2:=[(1,some (fi y)),(7,some (fi room)),(8,some (.s (.sl g.length 0 0 0))),(14,some (.s v)),(15,some (fi l.length)),(16,some (fi 0))]) (by simp[GhF]) ?_;refine Lp.gen (keep:=[1,7,8,14,15,16]) (σ:=Nat) l.length (fun k w=>[(1,some (fi y)),(7,some (fi (Js y room (l.take k)))),(8,some (.s (.sl g.length w 0 k))),(14,some (.s v)),(15,some (fi l.length)),(16,some (fi (k:Int)))]) (fun k w=>g++[.own w 3 1 ((qd y room (l.take k)).flatMap zY)]) (fun _ _=>True) 0 (by decide) (fun _ _=>rfl) trivial ?_ ?_
 ·intro k hk w _ hlt N hN;have hr2:RdX (g++[XO.own w 3 1 ((qd y room (l.take k)).flatMap zY)]) 327 3 yR v l:=hr.app;obtain⟨p,cs,o,b1,b2,b3,b4,_⟩:=hr2.at zN (by decide) hk;obtain⟨e1,e2⟩:=zfu y l room k hk;have hb:=zhB y (l.take k) room hroom.1 fun v hv=>(hm v (zvM hv)).1;have hx:=hm l[k] (zvk hk);have hvl:(qd y room (l.take k)).length=k:=by rw[YR,zu0];omega
  have hfl:((qd y room (l.take k)).flatMap zY).length=k:=by rw[zg zG,hvl];omega
  have hlv:∀m,zw m ((qd y room (l.take k)).flatMap zY):=fun m=>zZ (fun a=>by simp[zY,zw]) _;have hn:=yN hk (by omega);rw[e1,e2] at hN;rw[zvw] at hN;generalize(qd y room (l.take k)).flatMap zY=F at *;generalize Js y room (l.take k)=left at *;generalize l[k]=x at *;have hvn:0≤qk y left x∧qk y left x≤left:=by unfold qk;split<;>omega
  have hw:IntKind.i64.wrap (left-qk y left x)=left-qk y left x:=ze (by omega) (by omega);simp[l279_0,hk,b1,b2,b3,b4,yR];refine zc (fun hc=> ?_) (fun hc=> ?_)
  ·simp at hc;have hv:qk y left x=min x.n left:=by unfold qk;rw[zuO hc]
   have hmin:(if left<x.n then left else x.n)=qk y left x:=by rw[hv];split<;>omega
   simp[hmin,hw,hfl,hn,show(k+1)*8≤140737488355328 by omega];refine hN (w+1) _ _ trivial ⟨by simp,⟨[_,_],by rw[zvc];rfl⟩,by simp,by simpa using hlt,.loc (by simp[lvO,hlv,zY])⟩
  ·simp at hc;have hv:qk y left x=0:=by unfold qk;rw[zuQ (by omega)]
   rw[hv,Int.sub_zero] at hw hN;simp[hw,hfl,hn,show(k+1)*8≤140737488355328 by omega];refine hN (w+1) _ _ trivial ⟨by simp,⟨[_,_],by rw[zvc];rfl⟩,by simp,by simpa using hlt,.loc (by simp[lvO,hlv,zY])⟩
 ·intro w _;rw[zve];simp[l279_0];exact Gh.here (hΨ _ _ ⟨w,rfl,rfl⟩)
theorem zrx{g:XH}{v:XV}{l:List Int}(hr:RdX g 3 1 zY v l)(hl:l.length≤1000)(hm:∀n∈l,za n=true):Cl C (fun _=>False) 281 [.s v] g fun u g'=>u=fi l.sum∧g'=g:=by
 refine Cl.ip rfl (zuF rfl) fun Ψ hΨ=> ?_;simp[hr.len];refine Lp.gen (keep:=[3,6,7,8]) l.length (fun k s=>[(3,some (fi s)),(6,some (.s v)),(7,some (fi l.length)),(8,some (fi (k:Int)))]) (fun _ _=>g) (fun k s=>s=(l.take k).sum) 0 (by decide) (fun _ _=>rfl) (by simp) ?_ ?_
 ·rintro k hk s rfl hlt N hN;obtain⟨p,cs,o,b1,b2,b3,b4,b5⟩:=hr.at zG (by decide) hk;have b6:=b5 rfl _ rfl;have hsum:(l.take (k+1)).sum=(l.take k).sum+l[k]:=by rw[zu6 hk,zwJ,zxL]
  have hb:=zbU (fun n:Int=>n) 100000000000 (by omega) (l.take k) fun b hb=>by simpa[za] using hm b (zvM hb)
  rw[zu0] at hb;simp only[List.map_id'] at hb;have hx:=hm l[k] (zvk hk);have hw:IntKind.i64.wrap ((l.take k).sum+l[k])=(l.take k).sum+l[k]:=by simp[za] at hx;exact ze (by omega) (by omega)
  simp[l281_0,hk,b1,b2,b6,hw,yN hk (by omega)];exact qJ ((l.take k).sum+l[k]) hN hsum.symm (by simp) (by simpa using hlt)
 ·rintro s rfl;rw[zve];simp[l281_0];exact Gh.here (hΨ _ _ ⟨rfl,rfl⟩)
theorem curRP(y:Int):Pure C 276 [fi y] (fb (y5 y)):=by
 refine Pure.intro0 (e:=e276) rfl (zuF rfl) (by simp) fun g Ψ h0 hJ=> ?_;simp
 repeat' first|(refine zc (fun hc=> ?_) (fun hc=> ?_)<;>try simp)
 all_goals(simp at *;exact Zv h0 (by simp[y5, *]<;>omega))
abbrev YI(l:List Int):XV:= .lst 3 1 l.length (l.flatMap zY)
def zD(r:Res):List XV:=[xi r.income,xi r.expired,xi r.used,xi r.new,xi r.taxable,xi r.tax,YI r.vec]
abbrev lpV(l:List Vi):XV:= .lp [.lst 327 3 l.length (l.flatMap yR)] 0
theorem JE.same{g G:XH}{i k:Nat}{l:List Vi}(h:JE g i k l)(e1:G[i]? =g[i]?)(e2:G[k]? =g[k]?):JE G i k l:=by obtain⟨w,o,cs,h1,h2,h3⟩:=h;exact⟨w,o,cs,e1.trans h1,e2.trans h2,h3⟩
theorem JE.fz{g J:XH}{i k:Nat}{l:List Vi}(h:JE (g++J) i k l)(hi:g.length≤i)(hk:g.length≤k):FzV g.length J [] [] (.ptr i 0 0) (lpV l):=by obtain⟨w,o,cs,h1,h2,h3,h4,h5⟩:=h;rw[zuN hi] at h1;rw[zuN hk] at h2;have:=FzV.sl (n0:=g.length) (J:=J) (K:=[]) (O:=[]) (o:=o) (n:=l.length) hk (fun j=>by simp) h2 h3 (.lts (h5 _));rw[h4] at this;exact FzV.ptr hi (fun j=>by simp) h1 (by simp) (.cons this .nil)
structure LosI(l:List Vi):Prop where
 len:l.length≤12
 m:∀v∈l,0≤v.n∧za v.n=true
 t:za (zx l)=true
 d:jH ltV l=true
theorem J4:∀{l:List Vi},(∀v∈l,0≤v.n∧za v.n=true)→0≤zx l
 |[],_=>by simp[zx]
 |v::l,h=>by have h1:=h v (by simp);have h2:=J4 (l:=l) fun x hx=>h x (by simp[hx]);simp only[zx,zu2,zwm] at h2⊢;omega
theorem LosI.kept(y:Int):∀{l:List Vi},LosI l→LosI (yD y l)
 |[],h=>h
 |v::l,h=>by
  unfold yD;split
  ·refine LosI.kept y ⟨by have:=h.len;simp at this;omega,fun x hx=>h.m x (by simp[hx]),?_,?_⟩
   ·have h1:=h.t;have h2:=(h.m v (by simp)).1;have h3:=J4 (l:=l) fun x hx=>h.m x (by simp[hx]);simp only[zx,zu2,zwm,za,zuW] at h1 h3;exact zvZ (by unfold zx;constructor<;>omega)
   ·have:=h.d;simp only[jH,zuP] at this;exact this.2
  ·exact h
theorem Qh(n cap:Int)(h:za n=true):0≤jE n cap∧jE n cap≤100000000000∧(1≤n→jE n cap≤n):=by
 unfold jE;split
 ·rename_i hc;have hf:=hc.2;simp[Zt,zn,za] at hf h;have h1:n*cap≤n*1000000:=zwE hf.2.2 (by omega);have h0:0≤n*cap:=zxd (by omega) hf.2.1;rw[zv4 h0];omega
 ·omega
theorem zgY(y:Int):∀(l:List Vi) (left:Int),0≤left→(∀v∈l,0≤v.n)→∀j (h1:j<(qd y left l).length) (h2:j<l.length),0≤(qd y left l)[j]∧(qd y left l)[j]≤l[j].n
 |[],_,_,_,j,_,h2=>by simp at h2
 |v::l,left,h,hv,j,h1,h2=>by
  have h0:=hv v (by simp);have:0≤qk y left v∧qk y left v≤left∧qk y left v≤v.n:=by unfold qk;split<;>omega
  cases j with
  |zero=>simp only[qd,List.getElem_cons_zero];omega
  |succ j=>
   simp only[qd,zwg];exact zgY y l _ (by omega) (fun x hx=>hv x (by simp[hx])) j _ _
theorem zbi(y:Int):∀(l:List Vi) (left:Int),0≤left→(∀v∈l,0≤v.n)→0≤(qd y left l).sum∧(qd y left l).sum≤left
 |[],_,h,_=>by simp[qd];omega
 |v::l,left,h,hv=>by
  have h0:=hv v (by simp);have:0≤qk y left v∧qk y left v≤left:=by unfold qk;split<;>omega
  have:=zbi y l (left-qk y left v) (by omega) fun x hx=>hv x (by simp[hx]);simp only[qd,zwm];omega
def Zz(l:List Vi)(book perm moved cap life year r:Int):Int×Res×List Vi:=
 if¬zn cap=true∨¬zn r=true∨¬y5 life=true∨¬y5 year=true then(1,qO,[])
 else if¬Jv book perm moved=true then(6,qO,[])
 else
  let n:=book+perm-moved;let k:=yD year l;let gone:=qu year l
  if 0<n then
   let v:=qd year (jE n cap) k
   (0,⟨n,gone,v.sum,0,n-v.sum,zd (n-v.sum) r,v⟩,Q6 k v)
  else if n<0 then
   let a:=QQ k year (year+life) (-n)
   if a.1=0 then(0,⟨n,gone,0,-n,0,zd 0 r,[]⟩,a.2) else(a.1,qO,[])
  else(0,⟨n,gone,0,0,0,zd 0 r,[]⟩,k)
def zj1(x:Int×Res×List Vi):XF:=if x.1=0 then .tup [.agg (zD x.2.1),.s (lpV x.2.2),fi 0] else .tup [.agg (zD qO),.s (.v .nilp),fi x.1]
theorem zsV{g:XH}{p:XV}{l:List Vi}(h:zfz g p l)(hI:LosI l)(book perm moved cap life year r:Int):Cl C (fun _=>False) 220 [.s p,fi book,fi perm,fi moved,fi cap,fi life,fi year,fi r] g fun u g'=>u=zj1 (Zz l book perm moved cap life year r)∧g'=g:=by
 refine Cl.ip rfl (zuF rfl) fun Ψ hΨ=> ?_;have l0:∀n,lvV g.length (xi n):=fun n=>by simp
 have bad:∀e J,e≠0→Zz l book perm moved cap life year r=(e,qO,[])→Gh (fun _=>False) g Ψ (.tup [.agg [xi 0,xi 0,xi 0,xi 0,xi 0,xi 0,.v .nils],.s (.v .nilp),fi e]) (g++J):=fun e J he hx=>
  Gh.pure (.cons (.agg (.cons (.lt (l0 _)) (.cons (.lt (l0 _)) (.cons (.lt (l0 _)) (.cons (.lt (l0 _)) (.cons (.lt (l0 _)) (.cons (.lt (l0 _)) (.cons (.nil (t:=3) (z:=1)) .nil)))))))) (.cons (.s (.lt (by simp))) (.cons (.s (.lt (l0 _))) .nil))) (hΨ _ _ ⟨by rw[hx];simp[zj1,he,zD,qO],rfl⟩)
 have badG:∀e (G:XH),e≠0→Zz l book perm moved cap life year r=(e,qO,[])→(∀j,j<g.length→G[j]? =g[j]?)→g.length≤G.length→Gh (fun _=>False) g Ψ (.tup [.agg [xi 0,xi 0,xi 0,xi 0,xi 0,xi 0,.v .nils],.s (.v .nilp),fi e]) G:=by
  intro e G he hx hp hl;have e1:G=g++G.drop g.length:=by
   have:G.take g.length=g:=by
    apply zv0;intro j;by_cases hj:j<g.length
    ·rw[zvh,zuO hj,hp j hj]
    ·rw[zvh,zuQ hj,zvK (by omega)]
   conv=>lhs;rw[←zvj g.length G,this]
  rw[e1];exact bad e _ he hx
 have good:∀(G:XH) (res:Res) (k':Nat) (l':List Vi) (vv:XV),Zz l book perm moved cap life year r=(0,res,l')→g.length≤k'→(∀j,j<g.length→G[j]? =g[j]?)→g.length≤G.length→JE G (g.length+2) k' l'→FzV g.length (G.drop g.length) [] [] vv (YI res.vec)→Gh (fun _=>False) g Ψ (.tup [.agg [xi res.income,xi res.expired,xi res.used,xi res.new,xi res.taxable,xi res.tax,vv],.s (.ptr (g.length+2) 0 0),fi 0]) G:=by
  intro G res k' l' vv hx hk hp hl hM hv;have e:G=g++G.drop g.length:=by
   have:G.take g.length=g:=by
    apply zv0;intro j;by_cases hj:j<g.length
    ·rw[zvh,zuO hj,hp j hj]
    ·rw[zvh,zuQ hj,zvK (by omega)]
   conv=>lhs;rw[←zvj g.length G,this]
  rw[e] at hM;rw[e];exact Gh.pure (.cons (.agg (.cons (.lt (l0 _)) (.cons (.lt (l0 _)) (.cons (.lt (l0 _)) (.cons (.lt (l0 _)) (.cons (.lt (l0 _)) (.cons (.lt (l0 _)) (.cons hv .nil)))))))) (.cons (.s (hM.fz (by omega) hk)) (.cons (.s (.lt (l0 _))) .nil))) (hΨ _ _ ⟨by rw[hx];simp[zj1,zD],rfl⟩)
 simp
 repeat' first|(refine zc (fun hc=> ?_) (fun hc=> ?_)<;>try simp)|(refine zb.pure (Zc ..) ?_;try simp)|(refine zb.pure (curRP ..) ?_;try simp)
 all_goals try (exact bad 1 _ (by decide) (by unfold Zz;rw[zuO (by clear bad badG good hΨ;simp_all)]))
 have hp:¬(¬zn cap=true∨¬zn r=true∨¬y5 life=true∨¬y5 year=true):=by clear bad badG good hΨ;simp_all
 have hry:zn r=true∧y5 life=true∧y5 year=true:=by clear bad badG good hΨ;simp_all
 refine zb.pure (zqA ..) ?_;simp;refine zc (fun hc=> ?_) (fun hc=> ?_)
 rotate_left
 ·simp;exact bad 6 _ (by decide) (by unfold Zz;rw[zuQ hp,zuO (by simp[hc])])
 rw[hc]
 have e0:Zz l book perm moved cap life year r=
  let n:=book+perm-moved
  if 0<n then(0,⟨n,qu year l,(qd year (jE n cap) (yD year l)).sum,0,n-(qd year (jE n cap) (yD year l)).sum,zd (n-(qd year (jE n cap) (yD year l)).sum) r,qd year (jE n cap) (yD year l)⟩,Q6 (yD year l) (qd year (jE n cap) (yD year l)))
  else if n<0 then
   if(QQ (yD year l) year (year+life) (-n)).1=0 then(0,⟨n,qu year l,0,-n,0,zd 0 r,[]⟩,(QQ (yD year l) year (year+life) (-n)).2) else((QQ (yD year l) year (year+life) (-n)).1,qO,[])
  else(0,⟨n,qu year l,0,0,0,zd 0 r,[]⟩,yD year l):=by
  unfold Zz;rw[zuQ hp,zuQ (by simp[hc])]
 have hnm:za (book+perm-moved)=true:=by simp[Jv,Jw] at hc;rw[zw2,zxR];exact hc.2.2
 generalize book+perm-moved=n at *;simp only at e0;simp;have hl:=hI.len;refine zb.go (zhH h.app (by omega)) (fun _ _ h=>h.elim) ?_;rintro u g' ⟨rfl,w,rfl⟩;simp;have hM:JE ((g++[.own 0 79 7 [xi 0,xi 0,xi 0,xi 0,xi 0,xi 0,.v .nils]])++[.own w 327 3 (l.flatMap yR),.own 0 295 1 [.sl (g.length+1) w 0 l.length]]) (g.length+2) (g.length+1) l:=⟨w,0,l.flatMap yR,by simp,by simp,by rw[zg zN,zvn];exact zuL _,by rw[zvP,zu8,←zg zN,zve],fun m=>JU m l⟩
 simp at hM;refine zb.go (zlZ hM (by omega) (by omega) (fun v hv=>(hI.m v hv).2) year) (fun x hx e=> .inl (by omega)) ?_;rintro u g' ⟨rfl,hM',hU⟩;have hZ:g'[g.length]? =some (.own 0 79 7 [xi 0,xi 0,xi 0,xi 0,xi 0,xi 0,.v .nils]):=by rw[hU.same g.length (by omega)];simp
 have hpre:∀j,j<g.length→g'[j]? =g[j]? :=fun j hj=>by rw[hU.same j (by omega),zq hj]
 have hgl:g'.length=g.length+3:=by rw[hU.len];simp
 clear hU hM;simp;refine⟨by omega,?_⟩;refine zc (fun hn=> ?_) (fun hn=> ?_)
 ·simp at hn;rw[zuO hn] at e0;have hK:=hI.kept year;have hM2:∀J,JE (g'++J) (g.length+2) (g.length+1) (yD year l):=fun J=>hM'.same (zq (by omega)) (zq (by omega));simp;refine zb.go (Fresh.frz (zgq (hM2 _).q (by have:=hK.len;omega)) (JU _ _) (by rw[zg zN])) (fun _ _ h=>h.elim) ?_;rintro u g2 ⟨rfl,rfl⟩;simp;refine zb.pure (zt1 ..) ?_;have hroom:=Qh n cap hnm;simp;refine zb.go (Fresh.frz (zmy (RdX.lst _ _) (by have:=hK.len;omega) year (jE n cap) ⟨hroom.1,hroom.2.1⟩ hK.m) (zZ (fun a=>by simp[zY]) _) (by rw[zg zG,YR])) (fun _ _ h=>h.elim) ?_;rintro u g2 ⟨rfl,rfl⟩;have hv1:=zgY year (yD year l) (jE n cap) hroom.1 (fun v hv=>(hK.m v hv).1);have hv2:=zbi year (yD year l) (jE n cap) hroom.1 (fun v hv=>(hK.m v hv).1);have hv3:=YR year (yD year l) (jE n cap);have hkm:∀(j:Nat) (h:j<(yD year l).length),za (yD year l)[j].n=true:=fun j h=>(hK.m _ (zvk h)).2;have hkl:=hK.len;generalize jE n cap=room at *;rw[←hv3];generalize qd year room (yD year l)=vec at *;have hvm:∀x∈vec,za x=true:=fun x hx=>by
   obtain⟨j,hj,rfl⟩:=zwU hx;have:=hv1 j hj (by omega);have h2:=hkm j (by omega);simp[za] at h2⊢;omega
  simp;refine⟨by omega,?_⟩;have hRd:∀g:XH,RdX g 3 1 zY (YI vec) vec:=fun g=>RdX.lst g vec;refine zb.go (zrx (hRd _) (by omega) hvm) (fun _ _ h=>h.elim) ?_;rintro u g2 ⟨rfl,rfl⟩;simp;refine⟨by omega,?_⟩;refine zb.go (zqK (hM2 _) (by omega) (by omega) (hRd _) hv3 fun j h1 h2=>⟨(hv1 j h1 h2).1,(hv1 j h1 h2).2,hkm j h2⟩) (fun x hx e=> .inl (by omega)) ?_;rintro u g2 ⟨rfl,k2,hk1,hk2,hA,hU⟩;simp at hk1;have hZ2:g2[g.length]? =some (.own 0 79 7 [xi 0,xi 0,xi 0,xi 0,xi 0,xi 0,.v .nils]):=by rw[hU.same g.length (by simp;omega) (by omega),zq (by omega)];exact hZ
  have hR2:g2[g'.length]? =some (.own 0 79 7 [xi n,xi (qu year l),xi vec.sum,xi 0,xi 0,xi 0,YI vec]):=by rw[hU.same g'.length (by simp) (by omega)];exact YG
  have hpre2:∀j,j<g.length→g2[j]? =g[j]? :=fun j hj=>by rw[hU.same j (by simp;omega) (by omega),zq (by omega),hpre j hj]
  have hl2:g.length+4≤g2.length:=by have:=hU.le;simp at this;omega
  clear hU;have w1:IntKind.i64.wrap (n-vec.sum)=n-vec.sum:=by simp[za] at hnm;exact ze (by omega) (by omega)
  have w2:IntKind.i64.wrap (n-vec.sum+0)=n-vec.sum:=by rw[zxH];exact w1
  simp[hZ2,hR2,w1,w2,show g.length<g2.length by omega,show g'.length<g2.length by omega];refine⟨by omega,?_⟩;refine zb.pure (ofX ..) ?_;have hne2:∀X,(g2.set g'.length X)[g.length]? =g2[g.length]? :=fun X=>zH (by omega);simp[hZ2,hR2,hne2,show g.length<g2.length by omega,show g'.length<g2.length by omega,show g.length≤g'.length by omega];refine good _ ⟨n,qu year l,vec.sum,0,n-vec.sum,zd (n-vec.sum) r,vec⟩ k2 _ _ e0 (by omega) (fun j hj=> ?_) (by simp;omega) (hA.same ?_ ?_) (.lt (by simp))
  ·rw[zH (by omega),zH (by omega),hpre2 j hj]
  ·rw[zH (by omega),zH (by omega)]
  ·rw[zH (by omega),zH (by omega)]
 ·simp at hn;rw[zuQ (by omega)] at e0;simp;refine zc (fun hn'=> ?_) (fun hn'=> ?_)
  ·simp at hn';rw[zuO hn'] at e0;have hK:=hI.kept year;have wy:IntKind.i64.wrap (year+life)=year+life:=by
    have:=hry.2;simp[y5] at this;exact ze (by omega) (by omega)
   have wn:IntKind.i64.wrap (-n)= -n:=by simp[za] at hnm;exact ze (by omega) (by omega)
   simp[wy,wn];refine⟨by omega,?_⟩;have hM2:JE (g'++[.own 0 79 7 [xi n,xi (qu year l),xi 0,xi (-n),xi 0,xi 0,.v .nils]]) (g.length+2) (g.length+1) (yD year l):=hM'.same (zq (by omega)) (zq (by omega));refine zb.go (ztr hM2 (by omega) (by have:=hK.len;omega) (fun v hv=>(hK.m v hv).2) hK.t hK.d year (year+life) (-n)) (fun x hx e=> .inl (by omega)) ?_;rintro u g2 ⟨rfl,hA,hU⟩;simp;have hZ2:g2[g.length]? =some (.own 0 79 7 [xi 0,xi 0,xi 0,xi 0,xi 0,xi 0,.v .nils]):=by rw[hU.same g.length (by omega),zq (by omega)];exact hZ
   have hR2:g2[g'.length]? =some (.own 0 79 7 [xi n,xi (qu year l),xi 0,xi (-n),xi 0,xi 0,.v .nils]):=by rw[hU.same g'.length (by omega)];exact YG
   have hpre2:∀j,j<g.length→g2[j]? =g[j]? :=fun j hj=>by rw[hU.same j (by omega),zq (by omega),hpre j hj]
   have hl2:g2.length=g.length+4:=by rw[hU.len];simp;omega
   clear hU;refine zc (fun ha=> ?_) (fun ha=> ?_)
   ·simp at ha;simp[hZ2,hR2,show g.length<g2.length by omega,show g'.length<g2.length by omega];refine badG _ _ ha (by rw[e0,zuQ ha]) (fun j hj=> ?_) (by simp;omega);rw[zH (by omega),hpre2 j hj]
   ·simp at ha;simp[hZ2,hR2,show g.length<g2.length by omega,show g'.length<g2.length by omega];rw[zuO ha] at e0;have wnn:IntKind.i64.wrap n=n:=zj5 hnm;have w0:IntKind.i64.wrap (n+ -n)=0:=by rw[Int.add_right_neg];rfl
    simp[wnn,w0];refine⟨by omega,?_⟩;refine zb.pure (ofX ..) ?_;have hne2:∀X,(g2.set g'.length X)[g.length]? =g2[g.length]? :=fun X=>zH (by omega);simp[hZ2,hR2,hne2,show g.length<g2.length by omega,show g'.length<g2.length by omega,show g.length≤g'.length by omega];refine good _ ⟨n,qu year l,0,-n,0,zd 0 r,[]⟩ (g.length+1) _ _ e0 (by omega) (fun j hj=> ?_) (by simp;omega) (hA.same ?_ ?_) .nil
    ·rw[zH (by omega),zH (by omega),hpre2 j hj]
    ·rw[zH (by omega),zH (by omega)]
    ·rw[zH (by omega),zH (by omega)]
  ·simp at hn';rw[zuQ (by omega)] at e0;obtain rfl:n=0:=by omega
   have w0:IntKind.i64.wrap 0=0:=rfl;simp[w0];refine⟨by omega,?_⟩;refine zb.pure (ofX ..) ?_;simp[hZ,show g.length<g'.length by omega,show g.length≤g'.length by omega];refine good _ ⟨0,qu year l,0,0,0,zd 0 r,[]⟩ (g.length+1) (yD year l) _ e0 (by omega) (fun j hj=> ?_) (by simp;omega) (hM'.same ?_ ?_) .nil
   ·rw[zq (by simp;omega),zH (by omega),hpre j hj]
   ·rw[zq (by simp;omega),zH (by omega)]
   ·rw[zq (by simp;omega),zH (by omega)]
end
end Go.Proofs.YtdmcfjkgopmlgaaGreatDoor.Ev.CA
namespace Go.Proofs.YtdmcfjkgopmlgaaGreatDoor.Ev
open Go
section
attribute [-simp] List.length_flatMap getElem?_pos
theorem FzF.i{n0:Nat}{J:XH}{K:List (Option Nat)}{O:XH}{n:Int}:FzF n0 J K O ((.s (.v (.int .i64 n)))) ((.s (.v (.int .i64 n)))):= .s (.lt (by simp))
theorem FzF.b{n0:Nat}{J:XH}{K:List (Option Nat)}{O:XH}{n:Bool}:FzF n0 J K O ((.s (.v (.bool n)))) ((.s (.v (.bool n)))):= .s (.lt (by simp))
theorem FzF.t2{n0:Nat}{J:XH}{K:List (Option Nat)}{O:XH}{a a' b b':XF}(h1:FzF n0 J K O a a')(h2:FzF n0 J K O b b'):FzF n0 J K O (.tup [a,b]) (.tup [a',b']):= .cons h1 (.cons h2 .nil)
theorem FzV.fl{α:Type}{enc:α→List XV}{z:Nat}(he:∀a,(enc a).length=z)(hv:∀(m:Nat) (a:α),zw m (enc a)){n0:Nat}{J:XH}{i w t:Nat}{l:List α}(h1:n0≤i)(h2:J[i-n0]? =some (.own w t z (l.flatMap enc))):FzV n0 J [] [] (.sl i w 0 l.length) (.lst t z l.length (l.flatMap enc)):=
 .full h1 (fun j=>by simp) h2 (by rw[zg he]) (.lts (zZ (hv n0) l))
theorem jo{g J:XH}{A A' A0:XO}{F fr:XFr}{N:XFr→XH→Prop}(hN:∀fr' g',Nxt (g++[A0]) F (g++[A']) fr' g'→N fr' g')(hA:A=A')(hf:fr=F)(hl:qn (g++[A']).length F)(ho:lvO (g++[A']).length A'):N fr (g++A::J):=by subst hA;refine zgx hN J (by simp) hf hl (by simp) ?_;intro o h;rw[zvm] at h;subst h;exact ho
theorem zjC{g J:XH}{A A' A0 B B' B0:XO}{F fr:XFr}{N:XFr→XH→Prop}(hN:∀fr' g',Nxt (g++[A0,B0]) F (g++[A',B']) fr' g'→N fr' g')(hA:A=A')(hB:B=B')(hf:fr=F)(hl:qn (g++[A',B']).length F)(ho:lvO (g++[A',B']).length A')(ho2:lvO (g++[A',B']).length B'):N fr (g++A::B::J):=by
 subst hA;subst hB;refine zgx hN J (by simp) hf hl (by simp) ?_;intro o h;rcases zuX.1 h with rfl|h
 ·exact ho
 ·rw[zvm] at h;subst h;exact ho2
end
end Go.Proofs.YtdmcfjkgopmlgaaGreatDoor.Ev
namespace Go.Proofs.YtdmcfjkgopmlgaaGreatDoor.Ev.CA
open Go
section
attribute [-simp] List.length_flatMap getElem?_pos
def zia:XFr→Nat→XF→XFr
 |[],_,_=>[]
 |(m,x)::r,n,v=>if m=n then(m,some v)::r else(m,x)::zia r n v
def qs(fr:XFr):List (Nat×XF)→XFr
 |[]=>fr
 |(n,v)::r=>qs (zia fr n v) r
theorem zot{n:Nat}{v:XF}:zia [] n v=[]:=rfl
theorem zl7{m n:Nat}{x:Option XF}{r:XFr}{v:XF}:zia ((m,x)::r) n v=if m=n then(m,some v)::r else(m,x)::zia r n v:=rfl
theorem zoY{fr:XFr}:qs fr []=fr:=rfl
theorem zft{fr:XFr}{n:Nat}{v:XF}{r:List (Nat×XF)}:qs fr ((n,v)::r)=qs (zia fr n v) r:=rfl
attribute [simp] zot zl7 zoY zft
theorem zfe(n:Nat)(v:XF):∀(fr:XFr),(zia fr n v).map (·.1)=fr.map (·.1)
 |[]=>rfl
 |(m,x)::r=>by
  unfold zia;split
  ·rfl
  ·simp[zfe n v r]
theorem YQ:∀(l:List (Nat×XF)) (fr:XFr),(qs fr l).map (·.1)=fr.map (·.1)
 |[],_=>rfl
 |(n,v)::r,fr=>by rw[zft,YQ r,zfe]
theorem Lp.foldU{α σ:Type}{B:Nat→Prop}{keep:List Nat}{b:EC}{Φ:Ex→XFr→XH→Prop}{fr:XFr}{g:XH}(l:List α)(V:Nat→σ→List (Nat×XF))(G:Nat→σ→XH)(step:σ→α→σ)(s0:σ)(hk:keep.Nodup)(hF:fr.map (·.1)=keep)(h0:fr=qs fr (V 0 s0))(hg:g=G 0 s0)
 (body:∀k (hk:k<l.length) (s:σ),s=(l.take k).foldl step s0→qn (G k s).length (qs fr (V k s))→∀N:XFr→XH→Prop,(∀fr' g',Nxt (G k s) (qs fr (V (k+1) (step s l[k]))) (G (k+1) (step s l[k])) fr' g'→N fr' g')→wk C B b (qs fr (V k s)) (G k s) (KLx N keep Φ))
 (fin:∀s,s=l.foldl step s0→wk C B b (qs fr (V l.length s)) (G l.length s) (KLx (fun _ _=>False) keep Φ)):
 Lp C B keep b fr g Φ:=by
 have:=Lp.fold (C:=C) (B:=B) (b:=b) (Φ:=Φ) (keep:=keep) l (fun k s=>qs fr (V k s)) G step s0 hk (fun k s=>(YQ _ _).trans hF) body fin;rw[←h0,←hg] at this;exact this
theorem Lp.genU{σ:Type}{B:Nat→Prop}{keep:List Nat}{b:EC}{Φ:Ex→XFr→XH→Prop}{fr:XFr}{g:XH}(n:Nat)(V:Nat→σ→List (Nat×XF))(G:Nat→σ→XH)(P:Nat→σ→Prop)(s0:σ)(hk:keep.Nodup)(hF:fr.map (·.1)=keep)(h0:fr=qs fr (V 0 s0))(hg:g=G 0 s0)(p0:P 0 s0)
 (body:∀k (hk:k<n) (s:σ),P k s→qn (G k s).length (qs fr (V k s))→∀N:XFr→XH→Prop,(∀s' fr' g',P (k+1) s'→Nxt (G k s) (qs fr (V (k+1) s')) (G (k+1) s') fr' g'→N fr' g')→wk C B b (qs fr (V k s)) (G k s) (KLx N keep Φ))
 (fin:∀s,P n s→wk C B b (qs fr (V n s)) (G n s) (KLx (fun _ _=>False) keep Φ)):
 Lp C B keep b fr g Φ:=by
 have:=Lp.gen (C:=C) (B:=B) (b:=b) (Φ:=Φ) (keep:=keep) n (fun k s=>qs fr (V k s)) G P s0 hk (fun k s=>(YQ _ _).trans hF) p0 body fin;rw[←h0,←hg] at this;exact this
theorem Lp.genG{σ:Type}{B:Nat→Prop}{keep:List Nat}{b:EC}{Φ:Ex→XFr→XH→Prop}{fr:XFr}{g:XH}(t z:Nat)(n:Nat)(V:Nat→σ→List (Nat×XF))(G:Nat→σ→XH)(P:Nat→σ→Prop)(s0:σ)(hk:keep.Nodup)(hF:fr.map (·.1)=keep)(h0:GhF g.length fr (qs fr (V 0 s0)))(hg:G 0 s0=g++[.own 0 t z []])(p0:P 0 s0)
 (body:∀k (hk:k<n) (s:σ),P k s→qn (G k s).length (qs fr (V k s))→∀N:XFr→XH→Prop,(∀s' fr' g',P (k+1) s'→Nxt (G k s) (qs fr (V (k+1) s')) (G (k+1) s') fr' g'→N fr' g')→wk C B b (qs fr (V k s)) (G k s) (KLx N keep Φ))
 (fin:∀s,P n s→wk C B b (qs fr (V n s)) (G n s) (KLx (fun _ _=>False) keep Φ)):
 Lp C B keep b fr g Φ:=by
 have:=Lp.gen (C:=C) (B:=B) (b:=b) (Φ:=Φ) (keep:=keep) n (fun k s=>qs fr (V k s)) G P s0 hk (fun k s=>(YQ _ _).trans hF) p0 body fin;rw[hg] at this;exact Lp.ghost t z h0 this
theorem RdX.atJ{α:Type}{enc:α→List XV}{t z:Nat}(he:∀a,(enc a).length=z)(hz:z≠0){g:XH}{v:XV}{l:List α}(r:RdX g t z enc v l){k:Nat}(hk:k<l.length):∃p cs o,jX g t z (k:Int) (.s v)=some p∧rdX g (.s p)=some (cs,o)∧(∀J,jX (g++J) t z (k:Int) (.s v)=some p∧rdX (g++J) (.s p)=some (cs,o))∧o+z≤cs.length∧(cs.drop o).take z=enc l[k]∧∀c,c<z→cs[o+c]? =(enc l[k])[c]? :=by
 have fin:∀(cs:List XV) o,o+z≤cs.length→(cs.drop o).take z=enc l[k]→o+z≤cs.length∧(cs.drop o).take z=enc l[k]∧∀c,c<z→cs[o+c]? =(enc l[k])[c]? :=fun cs o h1 h2=>by refine⟨h1,h2,fun c hc=> ?_⟩;rw[←h2,zvh,zuO hc,zvH]
 obtain⟨a1,a2,_⟩:=atX he hk;rcases r with⟨rfl,_⟩|rfl|⟨i,w,o,cs,rfl,h,h1,h2⟩
 ·simp at hk
 ·exact⟨.lp (l.flatMap enc) (k*z),_,_,by simp[jX,hk],rfl,fun J=>⟨by simp[jX,hk],rfl⟩,fin _ _ a1 a2⟩
 ·have e1:(o+k)*z=o*z+k*z:=zvv _ _ _;have e2:(o+l.length)*z=o*z+l.length*z:=zvv _ _ _;have e3:(k+1)*z≤l.length*z:=zvf _ hk;rw[zwP] at e3;have hJ:∀J,zL (g++J) i w=some (t,z,cs):=fun J=>zc3 h;refine⟨.ptr i w ((o+k)*z),cs,(o+k)*z,by simp only[jX,h,and_self,if_true,zxJ,Int.ofNat_lt,hk,zxP],by simp only[rdX,h],fun J=>⟨by simp only[jX,hJ J,and_self,if_true,zxJ,Int.ofNat_lt,hk,zxP],by simp only[rdX,hJ J]⟩,fin _ _ (by omega) ?_⟩;rw[←a2,←h2,e1,←zwZ,zw0,zwI,zvu (by omega)]
theorem RdX.at1{α:Type}{enc:α→List XV}{t:Nat}(he:∀a,(enc a).length=1){g:XH}{v:XV}{l:List α}(r:RdX g t 1 enc v l){k:Nat}(hk:k<l.length):∃p cs o,jX g t 1 (k:Int) (.s v)=some p∧rdX g (.s p)=some (cs,o)∧(∀J,jX (g++J) t 1 (k:Int) (.s v)=some p∧rdX (g++J) (.s p)=some (cs,o))∧cs[o]? =(enc l[k])[0]? :=by obtain⟨p,cs,o,h1,h2,h3,h4,h5,h6⟩:=r.atJ he (by decide) hk;exact⟨p,cs,o,h1,h2,h3,h6 0 (by decide)⟩
section
variable {g r:XH} {i j k:Nat} {x x2 y z:XO}
@[simp] theorem getS_len:(g.set i x++y::r)[g.length]? =some y:=by
 have:g.length=(g.set i x).length:=by simp
 rw[this,YG]
@[simp] theorem getS_add:(g.set i x++r)[g.length+k]? =r[k]? :=by
 have:g.length=(g.set i x).length:=by simp
 rw[this,zaQ]
@[simp] theorem setS_at:(g.set i x++y::r).set g.length z=g.set i x++z::r:=by
 have:g.length=(g.set i x).length:=by simp
 rw[this,zgP]
@[simp] theorem setS_add:(g.set i x++r).set (g.length+k) z=g.set i x++r.set k z:=by
 have:g.length=(g.set i x).length:=by simp
 rw[this,zeg]
@[simp] theorem zuB:((g.set i x).set j x2++y::r)[g.length]? =some y:=by
 have:g.length=((g.set i x).set j x2).length:=by simp
 rw[this,YG]
@[simp] theorem zuA:((g.set i x).set j x2++r)[g.length+k]? =r[k]? :=by
 have:g.length=((g.set i x).set j x2).length:=by simp
 rw[this,zaQ]
@[simp] theorem setS2_at:((g.set i x).set j x2++y::r).set g.length z=(g.set i x).set j x2++z::r:=by
 have:g.length=((g.set i x).set j x2).length:=by simp
 rw[this,zgP]
@[simp] theorem zuD:((g.set i x).set j x2++r).set (g.length+k) z=(g.set i x).set j x2++r.set k z:=by
 have:g.length=((g.set i x).set j x2).length:=by simp
 rw[this,zeg]
end
abbrev wr(n:Int):Int:=IntKind.i64.wrap n
theorem Yc.app{T R:Nat}{g J:XH}{i k:Nat}{t:List Rw}(h:Yc T R g i k t):Yc T R (g++J) i k t:=by obtain⟨w,h1,h2⟩:=h;exact⟨w,by rw[zq (zf h1)];exact h1,by rw[zq (zf h2)];exact h2⟩
theorem ztz(a b:Int):(if b<a then b else a)=min a b:=by split<;>omega
theorem ztx(a b:Int):(if a<b then b else a)=max a b:=by split<;>omega
theorem zcj(t:List Rw)(j:ByteArray)(p:Int):∀(l:List Int) (y:Int) (acc:List Int),zO t j p l=some acc→zO t j p (l++[y])=(jb t j (max y (p.tdiv 4)) p).map fun r=>acc++[r]
 |[],y,acc,h=>by
  simp only[zO,zuE] at h;subst h;simp only[zwj,zO];cases jb t j (max y (p.tdiv 4)) p<;>rfl
 |x::l,y,acc,h=>by
  simp only[zO,zv5] at h⊢;cases hx:jb t j (max x (p.tdiv 4)) p with
  |none=>rw[hx] at h;cases h
  |some r=>
   rw[hx] at h;simp only at h⊢;obtain⟨acc',h1,rfl⟩:=zuI.1 h;rw[zcj t j p l y acc' h1];cases jb t j (max y (p.tdiv 4)) p<;>rfl
theorem zci(t:List Rw)(j:ByteArray)(p:Int):∀(l m:List Int),zO t j p l=none→zO t j p (l++m)=none
 |[],m,h=>by simp[zO] at h
 |x::l,m,h=>by
  simp only[zO,zv5] at h⊢;cases hx:jb t j (max x (p.tdiv 4)) p with
  |none=>rfl
  |some r=>
   rw[hx] at h;simp only[Option.map_eq_none_iff] at h⊢;exact zci t j p l m h
theorem zhU{g:XH}{i k:Nat}{t:List Rw}(ht:Yc 145 140 g i k t)(hl:t.length≤1000)(j:ByteArray)(p:Int):
 Cl C (fun _=>False) 92 [.s (.ptr i 0 0),fs j,fi p] g fun u g'=>u= .tup [fi (yZ t j p).1,fi (yZ t j p).2]∧g'=g:=by
 refine Cl.ip rfl (zuF rfl) fun Ψ hΨ=> ?_;simp;refine zb.pure (Zg ..) ?_;simp;refine zc (fun hc=> ?_) (fun hc=> ?_)
 ·have hy:Yr p=p.tdiv 4:=by unfold Yr;rw[zuO hc]
  have hb:=ziH p;rw[hy] at hb;simp;refine zb.pure (zla ..) ?_;rw[hy];simp[ze (n:=p.tdiv 4+1) (by omega) (by omega),ztz];refine zb.go0 (zgV ht hl j (min (p.tdiv 4+1) 99) p) ?_;rcases hr:jb t j (min (p.tdiv 4+1) 99) p with _|r
  ·simp;exact Gh.here (hΨ _ _ ⟨by simp[yZ,hc,hr],rfl⟩)
  ·simp;exact Gh.here (hΨ _ _ ⟨by simp[yZ,hc,hr],rfl⟩)
 ·simp;exact Gh.here (hΨ _ _ ⟨by simp[yZ,hc],rfl⟩)
def Zq(t:List Rw)(j:ByteArray)(p:Int)(ys:List Int):XF:=if zm p then match zO t j p ys with
 |some l=> .tup [.s (YI l),fi 0]
 |none=> .tup [.s (.v .nils),fi 7]
 else .tup [.s (.v .nils),fi 1]
theorem zow{g:XH}{i k:Nat}{t:List Rw}(ht:Yc 145 140 g i k t)(hl:t.length≤1000)(j:ByteArray)(p:Int){v:XV}{l:List Bu}(hr:RdX g 261 3 yb v l)(hb:l.length≤1000):
 Cl C (fun _=>False) 272 [.s (.ptr i 0 0),fs j,.s v,fi p] g fun u g'=>u=Zq t j p (l.map (·.y))∧g'=g:=by
 refine Cl.ip rfl (zuF rfl) fun Ψ hΨ=> ?_;simp;refine zb.pure (Zg ..) ?_;simp;refine zc (fun hc=> ?_) (fun hc=> ?_)
 ·have hy:Yr p=p.tdiv 4:=by unfold Yr;rw[zuO hc]
  have hyb:=ziH p;rw[hy] at hyb;simp[hr.len];refine Lp.ghost 3 1 (fr2:=[(0,some (.s (.ptr i 0 0))),(1,some (fs j)),(3,some (fi p)),(10,some (.s (.sl g.length 0 0 0))),(18,some (.s v)),(19,some (fi l.length)),(20,some (fi 0))]) (by simp[GhF]) ?_;refine Lp.genU (σ:=Nat×List Int) l.length (fun k s=>[(10,.s (.sl g.length s.1 0 s.2.length)),(20,fi k)]) (fun k s=>g++[.own s.1 3 1 (s.2.flatMap zY)]) (fun k s=>s.2.length=k∧zO t j p ((l.map (·.y)).take k)=some s.2) (0,[]) (by decide) rfl (by simp) (by simp) (by simp[zO]) ?_ ?_
  ·rintro q hq ⟨w,acc⟩ ⟨hlen,hacc⟩ hlt N hN;simp only at *;have hr2:RdX (g++[XO.own w 3 1 (acc.flatMap zY)]) 261 3 yb v l:=hr.app;obtain⟨p1,cs,o,b1,b2,b3,b4,_⟩:=hr2.at zR (by decide) hq;simp[l272_0,hq,b1,b2,b3,b4,yb];refine zeM (fun _=>False) (by simp) ?_;simp;refine zb.pure (zla ..) ?_;rw[hy];simp[ztx];refine zb.go0 (zgV ht.app hl j (max l[q].y (p.tdiv 4)) p) ?_;have e1:(l.map (·.y)).take (q+1)=(l.map (·.y)).take q++[l[q].y]:=by rw[zu6 (by simpa using hq)];simp
   have e2:=zcj t j p _ l[q].y acc hacc;rw[←e1] at e2;rcases hr:jb t j (max l[q].y (p.tdiv 4)) p with _|r
   ·rw[hr] at e2;have e3:=zci t j p _ ((l.map (·.y)).drop (q+1)) e2;rw[zvj] at e3;simp;exact Gh.pure (.t2 (.s (.lt (by simp))) .i) (hΨ _ _ ⟨by simp[Zq,hc,e3],rfl⟩)
   ·rw[hr] at e2;have hcl:(acc.flatMap zY).length=acc.length:=by rw[zg zG];omega
    simp[hr,hcl,show(acc.length+1)*8≤140737488355328 by omega,yN hq (by omega)];exact jo (fun fr g'=>hN (w+1,acc++[r]) fr g' ⟨by simp[hlen],e2⟩) (by simp) (by simp) (by simpa using hlt) (by simp[lvO])
  ·rintro⟨w,acc⟩ ⟨hlen,hacc⟩;simp only at *;rw[zvA (by simp)] at hacc;simp[l272_0];exact Gh.pure (.t2 (.s (.fl (t:=3) zG (fun m a=>by simp) (zuL _) (by simp))) .i) (hΨ _ _ ⟨by simp[Zq,hc,hacc],rfl⟩)
 ·simp;exact Gh.here (hΨ _ _ ⟨by simp[Zq,hc],rfl⟩)
theorem zem:∀(l:List Bu) (s:List Int) (k:Nat) (h1:k<l.length) (h2:k<s.length),jg (l.take (k+1)) (s.take (k+1))=jg (l.take k) (s.take k)-zd l[k].n s[k]
 |[],_,k,h1,_=>by simp at h1
 |_::_,[],k,_,h2=>by simp at h2
 |b::l,r::s,0,_,_=>by simp[jg]
 |b::l,r::s,k+1,h1,h2=>by simp only[zu3,jg,zwg];rw[zem l s k (by simpa using h1) (by simpa using h2)];omega
theorem ziy:∀(l:List Bu) (s:List Int),-(4000000000001*(l.length:Int))≤jg l s∧jg l s≤4000000000001*(l.length:Int)
 |[],_=>by simp[jg]
 |b::l,[]=>by simp[jg];omega
 |b::l,r::s=>by have h1:=ziy l s;have h2:=zB b.n r;simp only[jg,zvr,zwu,zw4];omega
def zdZ:List Bu→List Int→Bool
 |b::l,r::s=>zn r&&za b.n&&zdZ l s
 |_,_=>true
theorem zkM:∀(l:List Bu) (s:List Int) (k:Nat) (h1:k<l.length) (h2:k<s.length),zdZ l s=true→zn s[k]=true∧za l[k].n=true
 |[],_,k,h1,_,_=>by simp at h1
 |_::_,[],k,_,h2,_=>by simp at h2
 |b::l,r::s,0,_,_,h=>by simp[zdZ] at h;exact h.1
 |b::l,r::s,k+1,h1,h2,h=>by simp only[zdZ,zuP] at h;exact zkM l s k (by simpa using h1) (by simpa using h2) h.2
theorem zd0:∀(l:List Bu) (s:List Int),(∀(k:Nat) (h1:k<l.length) (h2:k<s.length),zn s[k]=true∧za l[k].n=true)→zdZ l s=true
 |[],_,_=>rfl
 |_::_,[],_=>rfl
 |b::l,r::s,h=>by have h0:=h 0 (by simp) (by simp);simp only[zdZ,zuP];exact⟨h0,zd0 l s fun k h1 h2=>h (k+1) (by simpa using h1) (by simpa using h2)⟩
def jS(l:List Bu)(s:List Int):Int×Int:=if s.length≠l.length then(0,1) else if zdZ l s then(if za (jg l s) then(jg l s,0) else(0,6)) else(0,1)
theorem tempX{g:XH}{v u:XV}{l:List Bu}{s:List Int}(hr:RdX g 261 3 yb v l)(hs:RdX g 3 1 zY u s)(hl:l.length≤1000):
 Cl C (fun _=>False) 284 [.s v,.s u] g fun u g'=>u= .tup [fi (jS l s).1,fi (jS l s).2]∧g'=g:=by
 refine Cl.ip rfl (zuF rfl) fun Ψ hΨ=> ?_;simp[hr.len,hs.len];refine zc (fun hc=> ?_) (fun hc=> ?_)
 ·simp at hc;replace hc:¬s.length=l.length:=by omega
  simp;exact Gh.here (hΨ _ _ ⟨by simp[jS,hc],rfl⟩)
 simp at hc;replace hc:s.length=l.length:=by omega
 simp[hr.len,hs.len];have bad:∀J,zdZ l s=false→Gh (fun _=>False) g Ψ (.tup [fi 0,fi 1]) (g++J):=fun J h=>Gh.pure (.t2 .i .i) (hΨ _ _ ⟨by simp[jS,hc,h],rfl⟩);refine Lp.genU (σ:=Unit) l.length (fun k _=>[(6,fi (jg (l.take k) (s.take k))),(18,fi k)]) (fun _ _=>g) (fun k _=>∀(j:Nat),j<k→∀(h1:j<l.length) (h2:j<s.length),zn s[j]=true∧za l[j].n=true) () (by decide) rfl (by simp[jg]) rfl (by omega) ?_ ?_
 ·rintro q hq ⟨⟩ hP hlt N hN;obtain⟨p1,cs,o,b1,b2,b3,b4,b5,_⟩:=hr.atJ zR (by decide) hq;obtain⟨p2,cs2,o2,c1,c2,c3,c4⟩:=hs.at1 zG (k:=q) (by omega);have e1:=zem l s q hq (by omega);have hb:=ziy (l.take q) (s.take q);have hb2:=zB l[q].n s[q];rw[zu0,zvu (by omega)] at hb;have hw:IntKind.i64.wrap (jg (l.take q) (s.take q)-zd l[q].n s[q])=jg (l.take (q+1)) (s.take (q+1)):=by rw[e1];exact ze (by omega) (by omega)
  have hno:∀b:Bool,(zn s[q]&&za l[q].n)=false→zdZ l s=false:=fun _ h=>by
   cases h2:zdZ l s with
   |false=>rfl
   |true=>
    have:=zkM l s q hq (by omega) h2;rw[this.1,this.2] at h;cases h
  simp[l284_0,hq,b1,b2,b3,b4,b5,c1,c2,c3,c4,yb,zY];refine zb.pure (Zc ..) ?_;simp;refine zc (fun h1=> ?_) (fun h1=> ?_)
  ·simp;refine zb.pure (yc ..) ?_;simp;refine zc (fun h2=> ?_) (fun h2=> ?_)
   ·simp[c1,c2,c3,c4,zY];refine zb.pure (ofX ..) ?_;simp[hw,yN hq (by omega)]
    exact zam () hN (fun j hj a b=>if e:j<q then hP j e a b else by obtain rfl:j=q:=by omega
                                                                    exact⟨h1,h2⟩) (by simp) (by simpa using hlt)
   ·simp;exact bad _ (hno true (by simp[h2]))
  ·simp;exact bad _ (hno true (by simp[h1]))
 ·rintro⟨⟩ hP;have hok:zdZ l s=true:=zd0 l s fun k h1 h2=>hP k h1 h1 h2;rw[zve,zvA (by omega)];simp[l284_0];refine zb.pure (yc ..) ?_;simp;refine zc (fun h1=> ?_) (fun h1=> ?_)
  ·simp;exact Gh.here (hΨ _ _ ⟨by simp[jS,hc,hok,h1],rfl⟩)
  ·simp;exact Gh.here (hΨ _ _ ⟨by simp[jS,hc,hok,h1],rfl⟩)
def jK(w:Wa):List XV:=[xi w.c,xi w.y,xi w.o,xi w.m,xi w.z]
theorem yl(b:Wa):(jK b).length=5:=rfl
theorem zfZ(b:Wa)(m:Nat):zw m (jK b):=by simp[jK]
@[simp] theorem encW_lvs(m:Nat)(l:List Wa):zw m (l.flatMap jK):=zZ (fun a=>zfZ a m) l
def qG(c y:Int)(b:Wa):Bool:=b.c==c&&b.y==y
theorem keyWP(x:Wa)(c y:Int){g:XH}{a b:Nat}(ha:g[a]? =some (.own 0 3 1 [xi c]))(hb:g[b]? =some (.own 0 3 1 [xi y])):Cl C (fun _=>False) 346 [.agg (jK x),.s (.ptr a 0 0),.s (.ptr b 0 0)] g fun u g'=>u=fb (qG c y x)∧g'=g:=by
 have la:=zf ha;have lb:=zf hb;refine Cl.ip rfl (zuF rfl) fun Ψ hΨ=> ?_;simp[jK,ha,hb,la,lb]
 repeat' first|(refine zc (fun hc=> ?_) (fun hc=> ?_)<;>try simp[jK,ha,hb,la,lb])
 all_goals(refine Gh.pure (.s (.lt (by simp))) (hΨ _ _ ⟨?_,rfl⟩);simp at *;simp[qG, *])
def zhS(c y:Int):Wa:=⟨c,y,0,0,0⟩
def ZU(c y:Int)(f:Wa→Wa):List Wa→List Wa
 |[]=>[f (zhS c y)]
 |x::l=>if qG c y x then f x::l else x::ZU c y f l
theorem Y3(c y:Int)(f:Wa→Wa):∀(l:List Wa) (k:Nat),(ym (qG c y) k l= -1∧l.any (qG c y)=false∧ZU c y f l=l++[f (zhS c y)])∨∃i,ym (qG c y) k l=((k+i:Nat):Int)∧l.any (qG c y)=true∧∃h:i<l.length,ZU c y f l=l.set i (f l[i])
 |[],k=> .inl ⟨rfl,rfl,rfl⟩
 |x::l,k=>by
  unfold ym ZU;cases hk:qG c y x with
  |true=>exact .inr ⟨0,by simp,by simp[hk],by simp,by simp⟩
  |false=>
   rcases Y3 c y f l (k+1) with⟨h1,h2,h3⟩|⟨i,h1,h2,h3,h4⟩
   ·exact .inl ⟨by simpa using h1,by simp[hk,h2],by simp[h3]⟩
   ·exact .inr ⟨i+1,by simp only[zva,if_false];rw[h1];congr 1;omega,by simp[hk,h2],by simpa using h3,by simp[h4]⟩
theorem zie(c y:Int)(f:Wa→Wa)(l:List Wa):(ZU c y f l).length≤l.length+1:=by rcases Y3 c y f l 0 with⟨_,_,h⟩|⟨i,_,_,_,h⟩<;>rw[h]<;>simp
theorem zoB{g:XH}{k w:Nat}{l:List Wa}(hk:g[k]? =some (.own w 244 5 (l.flatMap jK)))(hl:l.length≤1000)(c y:Int):Cl C (fun x=>x=k) 314 [.s (.sl k w 0 l.length),fi c,fi y] g fun u g'=>∃(w':Nat) (l':List Wa) (i:Nat),u= .tup [.s (.sl k w' 0 l'.length),fi (i:Nat)]∧g'=g.set k (.own w' 244 5 (l'.flatMap jK))∧l'.length≤l.length+1∧∃h:i<l'.length,∀f,ZU c y f l=l'.set i (f l'[i]):=by
 have lk:=zf hk;have hlen:(l.flatMap jK).length=l.length*5:=zg yl l;refine Cl.ip rfl (zuF rfl) fun Ψ hΨ=> ?_;simp[hk,lk];refine zb.go0 (Yu (f:=345) rfl yl (by decide) (RdX.sl yl hk).app (by omega) (.inr ⟨g.length+2,346,[],[.s (.ptr g.length 0 0),.s (.ptr (g.length+1) 0 0)],rfl,by simp,fun x _=>keyWP x c y (by simp) (by simp)⟩)) ?_;have hp:=fun f=>Y3 c y f l 0;rcases Y3 c y id l 0 with⟨e1,e2,_⟩|⟨i,e1,e2,hi,_⟩
 ·have hput:∀f,ZU c y f l=(l++[zhS c y]).set l.length (f (zhS c y)):=fun f=>by
   rcases hp f with⟨_,_,h⟩|⟨_,_,h,_⟩
   ·rw[h,zvO _ _ (zuL _),zvG];rfl
   ·rw[e2] at h;cases h
  simp[e1,hk,lk,hlen,show(l.length+1)*40≤140737488355328 by omega];refine qZ (Upd.refl.set (S:=fun x=>x=k) rfl (by simp[lvO])) (by simp[lk]) (hΨ _ _ ⟨w+1,l++[zhS c y],l.length,by simp,by simp[zhS,jK],by simp,by simp,fun f=> ?_⟩);rw[hput f];simp
 ·have hput:∀f,ZU c y f l=l.set i (f l[i]):=fun f=>by
   rcases hp f with⟨h,_⟩|⟨j,h,_,h2,h3⟩
   ·rw[e1] at h;simp at h
   ·rw[e1] at h;obtain rfl:i=j:=by simp at h;omega
    exact h3
  rw[zvn] at e1;simp[e1,hk,lk];refine Gh.pure (.t2 (.s (.lt (by simp[lk]))) .i) (hΨ _ _ ⟨w,l,i,rfl,(jc hk).symm,zw8 _,hi,hput⟩)
def cW(b:Wa):List SV:=[.int .i64 b.c,.int .i64 b.y,.int .i64 b.o,.int .i64 b.m,.int .i64 b.z]
theorem zkj(l:List Wa):(l.flatMap cW).map XV.v=l.flatMap jK:=by rw[zxi];rfl
def ltW(a b:Wa):Bool:=decide (a.c<b.c)||(a.c==b.c&&decide (a.y<b.y))
theorem ltK_W(a b:Wa):ltK [0,1] (cW a) (cW b)=ltW a b:=by simp[ltK,cW,ltW]
theorem zjR{g:XH}{k w:Nat}{l:List Wa}(hk:g[k]? =some (.own w 244 5 (l.flatMap jK)))(hd:jH ltW l=true)(hlm:l.length<4611686018427387904):Cl C (fun x=>x=k) 315 [.s (.sl k w 0 l.length)] g fun u g'=>u= .s (.sl k w 0 l.length)∧g'=g.set k (.own w 244 5 ((zt ltW l).flatMap jK)):=by have lk:=zf hk;refine Cl.ip rfl (zuF rfl) fun Ψ hΨ=> ?_;simp;refine zb.go (zbf (o:=0) (enc:=cW) (lta:=ltW) rfl (fun _=>rfl) (by decide) (fun a v hv=>by simp[cW] at hv;rcases hv with rfl|rfl|rfl|rfl|rfl<;>rfl) (fun _=>rfl) ltK_W (l:=l) (cs:=l.flatMap jK) (w:=w) (k:=k) hk (by rw[zvn,zg yl];exact zuL _) (by rw[zvP,zu8,←zg yl,zve,zkj]) hd hlm) (fun x hx e=> .inr e) ?_;rintro u g' ⟨rfl,rfl⟩;rw[zkj,zvP,ZX (by rw[zg yl,zg yl,zJ])];simp;exact Gh.here (hΨ _ _ ⟨rfl,rfl⟩)
def qv(l:List Wa)(b:Bu):List Wa:=ZU b.c b.y (fun w=>{w with o:=b.n}) l
def qN(l:List Wa)(b:Bu):List Wa:=ZU b.c b.y (fun w=>{w with z:=b.n}) l
def Jt(w:Wa):Wa:={w with m:=wr (w.z-w.o)}
def zv(o c:List Bu):List Wa:=zt ltW ((c.foldl qN (o.foldl qv [])).map Jt)
def zc8(a b:Wa):Prop:=¬(a.c=b.c∧a.y=b.y)
def Jp(l:List Wa):Prop:=l.Pairwise zc8
theorem zdd:∀{l:List Wa},Jp l→jH ltW l=true
 |[],_=>rfl
 |x::l,h=>by obtain⟨h1,h2⟩:=zu7.1 h;simp only[jH,zuP,zu4];refine⟨fun y hy=> ?_,zdd h2⟩;have:=h1 y hy;unfold zc8 at this;simp[ltW];omega
theorem zif{c y:Int}{f:Wa→Wa}(hf:∀w,(f w).c=w.c∧(f w).y=w.y):∀{l:List Wa} {x:Wa},x∈ZU c y f l→(x.c=c∧x.y=y)∨∃z∈l,x.c=z.c∧x.y=z.y
 |[],x,h=>by
  simp[ZU] at h;subst h;exact .inl (hf _)
 |z::l,x,h=>by
  unfold ZU at h;split at h
  ·rcases zuX.1 h with rfl|h
   ·exact .inr ⟨z,by simp,hf z⟩
   ·exact .inr ⟨x,by simp[h],rfl,rfl⟩
  ·rcases zuX.1 h with rfl|h
   ·exact .inr ⟨x,by simp,rfl,rfl⟩
   ·rcases zif hf h with h|⟨z',h1,h2⟩
    ·exact .inl h
    ·exact .inr ⟨z',by simp[h1],h2⟩
theorem QK{c y:Int}{f:Wa→Wa}(hf:∀w,(f w).c=w.c∧(f w).y=w.y):∀{l:List Wa},Jp l→Jp (ZU c y f l)
 |[],_=>by simp[ZU,Jp]
 |z::l,h=>by
  obtain⟨h1,h2⟩:=zu7.1 h;unfold ZU;split
  ·refine zu7.2 ⟨fun a ha=> ?_,h2⟩;have:=h1 a ha;unfold zc8 at this⊢;rw[(hf z).1,(hf z).2];exact this
  ·rename_i hk;refine zu7.2 ⟨fun a ha=> ?_,QK hf h2⟩;rcases zif hf ha with⟨e1,e2⟩|⟨z',hz,e1,e2⟩
   ·unfold zc8;rw[e1,e2];simp[qG] at hk;omega
   ·have:=h1 z' hz;unfold zc8 at this⊢;rw[e1,e2];exact this
theorem zaj:∀(b:List Bu) (l:List Wa),Jp l→Jp (b.foldl qv l)
 |[],_,h=>h
 |x::b,l,h=>zaj b (qv l x) (QK (f:=fun w=>{w with o:=x.n}) (fun _=>⟨rfl,rfl⟩) h)
theorem zdu:∀(b:List Bu) (l:List Wa),Jp l→Jp (b.foldl qN l)
 |[],_,h=>h
 |x::b,l,h=>zdu b (qN l x) (QK (f:=fun w=>{w with z:=x.n}) (fun _=>⟨rfl,rfl⟩) h)
theorem zaN(o c:List Bu):jH ltW ((c.foldl qN (o.foldl qv [])).map Jt)=true:=by refine zdd (zwS.2 ?_);exact(zdu c _ (zaj o [] List.Pairwise.nil)).imp fun h=>h
theorem zbw{α β:Type}(f:β→α→β)(s:β)(l:List α){k:Nat}(hk:k<l.length):(l.take (k+1)).foldl f s=f ((l.take k).foldl f s) l[k]:=by rw[zu6 hk,List.foldl_append];rfl
theorem zn4{α:Type}(f:α→α){l:List α}{k:Nat}(hk:k<l.length):((l.take k).map f++l.drop k).length=l.length∧(∀h,((l.take k).map f++l.drop k)[k]'h=l[k])∧(l.take (k+1)).map f++l.drop (k+1)=((l.take k).map f++l.drop k).set k (f l[k]):=by
 have hl:((l.take k).map f).length=k:=by simp;omega
 refine⟨by simp;omega,fun h=> ?_,?_⟩
 ·have e:((l.take k).map f++l.drop k)[k]? =l[k]? :=by rw[zuN (by omega),hl,zvG,zvH,zwa]
  rw[zuV h,zuV hk] at e;exact zuG e
 ·rw[zu6 hk,zvp,zvO _ _ (by omega),hl,zvG,zvq hk,zvc];rfl
theorem YD:∀(b:List Bu) (l:List Wa),(b.foldl qv l).length≤l.length+b.length
 |[],l=>by simp
 |x::b,l=>by have h1:=YD b (qv l x);have h2:=zie x.c x.y (fun w=>{w with o:=x.n}) l;simp only[zwv,zvr];unfold qv at h1⊢;omega
theorem YE:∀(b:List Bu) (l:List Wa),(b.foldl qN l).length≤l.length+b.length
 |[],l=>by simp
 |x::b,l=>by have h1:=YE b (qN l x);have h2:=zie x.c x.y (fun w=>{w with z:=x.n}) l;simp only[zwv,zvr];unfold qN at h1⊢;omega
abbrev zhI(l:List Wa):XV:= .lst 244 5 l.length (l.flatMap jK)
theorem Qg{g:XH}{u v:XV}{o c:List Bu}(hu:RdX g 261 3 yb u o)(hv:RdX g 261 3 yb v c)(ho:o.length≤400)(hc:c.length≤400):
 Cl C (fun _=>False) 275 [.s u,.s v] g fun u g'=>u= .s (zhI (zv o c))∧g'=g:=by
 refine Cl.ip rfl (zuF rfl) fun Ψ hΨ=> ?_;simp[hu.len];refine Lp.genG 244 5 (σ:=Nat×List Wa) o.length (fun k s=>[(5,.s (.sl g.length s.1 0 s.2.length)),(14,fi k)]) (fun k s=>g++[.own s.1 244 5 (s.2.flatMap jK)]) (fun k s=>s.2=(o.take k).foldl qv []) (0,[]) (by decide) rfl (by simp[GhF]) (by simp) (by simp) ?_ ?_
 ·rintro q hq ⟨w,L⟩ hP hlt N hN;simp only at *;subst hP;have hLl:=YD (o.take q) [];rw[zu0,zv1] at hLl;have hs:=zbw qv [] o hq;generalize(o.take q).foldl qv []=L at *;obtain⟨p,cs,o',b1,b2,b3,b4,b5,_⟩:=hu.atJ zR (by decide) hq;simp[l275_0,hq,b3,b4,b5,yb];refine zb.go (zoB (k:=g.length) (w:=w) (l:=L) (by simp) (by omega) o[q].c o[q].y) (fun x hx e=> .inl (by omega)) ?_;rintro u g' ⟨w',l',i,rfl,rfl,hl',hi,hput⟩;have e1:=hput fun w=>{w with o:=o[q].n}
  have h1:=jW yl (l:=l') (k:=i) hi (c:=2) (by decide) (v:=xi o[q].n) (x:={l'[i] with o:=o[q].n}) rfl [];simp only[zvl] at h1;have h2:=zg yl l';have h3:i*5+2+1≤(l'.flatMap jK).length:=by omega
  have h4:¬l'.flatMap jK=[]:=fun e=>by rw[e] at h2;simp at h2;omega
  rw[←e1] at h1;have e2:(ZU o[q].c o[q].y (fun w=>{w with o:=o[q].n}) L).length=l'.length:=by rw[e1,zvi]
  simp[hi,h1,h3,h4,yN hq (by omega)];exact jo (fun fr g'=>hN (w',qv L o[q]) fr g' hs.symm) rfl (by simp[qv,e2]) (by simpa using hlt) (by simp[lvO])
 ·rintro⟨w,L⟩ hP;simp only[zve] at *;subst hP;have hLl:=YD o [];rw[zv1] at hLl;have hdist:=zaN o c;have hfw:zv o c=zt ltW ((c.foldl qN (o.foldl qv [])).map Jt):=rfl;generalize o.foldl qv []=L0 at *;have hvl:∀J,Y6 (g++J) (.s v)=some c.length:=fun J=>hv.app.len;simp[l275_0,hvl];refine Lp.genU (σ:=Nat×List Wa) c.length (fun k s=>[(5,.s (.sl g.length s.1 0 s.2.length)),(36,fi k)]) (fun k s=>g++[.own s.1 244 5 (s.2.flatMap jK)]) (fun k s=>s.2=(c.take k).foldl qN L0) (w,L0) (by decide) rfl (by simp) rfl (by simp) ?_ ?_
  ·rintro q hq ⟨w,L⟩ hP hlt N hN;simp only at *;subst hP;have hLl2:=YE (c.take q) L0;rw[zu0] at hLl2;have hs:=zbw qN L0 c hq;generalize(c.take q).foldl qN L0=L at *;obtain⟨p,cs,o',b1,b2,b3,b4,b5,_⟩:=hv.atJ zR (by decide) hq;simp[l275_1,hq,b3,b4,b5,yb];refine zb.go (zoB (k:=g.length) (w:=w) (l:=L) (by simp) (by omega) c[q].c c[q].y) (fun x hx e=> .inl (by omega)) ?_;rintro u g' ⟨w',l',i,rfl,rfl,hl',hi,hput⟩;have e1:=hput fun w=>{w with z:=c[q].n}
   have h1:=jW yl (l:=l') (k:=i) hi (c:=4) (by decide) (v:=xi c[q].n) (x:={l'[i] with z:=c[q].n}) rfl [];simp only[zvl] at h1;have h2:=zg yl l';have h3:i*5+4+1≤(l'.flatMap jK).length:=by omega
   have h4:¬l'.flatMap jK=[]:=fun e=>by rw[e] at h2;simp at h2;omega
   rw[←e1] at h1;have e2:(ZU c[q].c c[q].y (fun w=>{w with z:=c[q].n}) L).length=l'.length:=by rw[e1,zvi]
   simp[hi,h1,h3,h4,yN hq (by omega)];exact jo (fun fr g'=>hN (w',qN L c[q]) fr g' hs.symm) rfl (by simp[qN,e2]) (by simpa using hlt) (by simp[lvO])
  ·rintro⟨w,L⟩ hP;simp only[zve] at *;subst hP;have hLl2:=YE c L0;generalize c.foldl qN L0=L at *;simp[l275_1];refine Lp.genU (σ:=Unit) L.length (fun k _=>[(58,fi k)]) (fun k _=>g++[.own w 244 5 (((L.take k).map Jt++L.drop k).flatMap jK)]) (fun _ _=>True) () (by decide) rfl (by simp) (by simp) trivial ?_ ?_
   ·rintro q hq ⟨⟩ _ hlt N hN;obtain⟨m1,m2,m3⟩:=zn4 Jt hq;rw[m3] at hN;generalize(L.take q).map Jt++L.drop q=M at *;have hqM:q<M.length:=by omega
    have m2:=m2 hqM;obtain⟨a1,a2,a3⟩:=atX yl (l:=M) (k:=q) hqM;have a4:=a3 4 (by decide);have a5:=a3 2 (by decide);have h1:=jW yl (l:=M) (k:=q) hqM (c:=3) (by decide) (v:=xi (wr (L[q].z-L[q].o))) (x:=Jt L[q]) (by rw[m2];rfl) [];simp only[zvl] at h1;rw[m2] at a4 a5;simp[jK] at a4 a5;have h3:q*5+3+1≤(M.flatMap jK).length:=by omega
    have h4:¬M.flatMap jK=[]:=fun e=>by rw[e] at a1;simp at a1
    simp[l275_2,hq,a4,a5,h1,h3,h4,yN hq (by omega)];exact jo (fun fr g'=>hN () fr g' trivial) rfl (by simp) (by simp) (by simp[lvO])
   ·rintro⟨⟩ _;rw[zve,zxV,zvl];simp[l275_2];have hS:=zjR (g:=g++[.own w 244 5 ((L.map Jt).flatMap jK)]) (k:=g.length) (w:=w) (l:=L.map Jt) (by simp) hdist (by first|omega|(simp;omega));rw[zu9] at hS;refine zb.go hS (fun x hx e=> .inl (by omega)) ?_;rintro u g' ⟨rfl,rfl⟩;rw[←hfw];have hfl:(zv o c).length=L.length:=by rw[hfw,zJ,zu9]
    rw[←hfl];simp;exact Gh.pure (.s (.fl (t:=244) yl (fun m a=>zfZ a m) (zuL _) (by simp))) (hΨ _ _ ⟨rfl,rfl⟩)
theorem zcf:∀(l:List Wa) (s:List Int) (k:Nat) (h1:k<l.length) (h2:k<s.length),yy (l.take (k+1)) (s.take (k+1))=yy (l.take k) (s.take k)+(zd l[k].z s[k]-zd l[k].o s[k])
 |[],_,k,h1,_=>by simp at h1
 |_::_,[],k,_,h2=>by simp at h2
 |b::l,r::s,0,_,_=>by simp[yy]
 |b::l,r::s,k+1,h1,h2=>by simp only[zu3,yy,zwg];rw[zcf l s k (by simpa using h1) (by simpa using h2)];omega
theorem ze0:∀(l:List Wa) (s:List Int),-(8000000000002*(l.length:Int))≤yy l s∧yy l s≤8000000000002*(l.length:Int)
 |[],_=>by simp[yy]
 |b::l,[]=>by simp[yy];omega
 |b::l,r::s=>by have h1:=ze0 l s;have h2:=zB b.z r;have h3:=zB b.o r;simp only[yy,zvr,zwu,zw4];omega
theorem zck:∀(l:List Wa) (s t:List Int) (k:Nat) (h1:k<l.length) (h2:k<s.length) (h3:k<t.length),yw (l.take (k+1)) (s.take (k+1)) (t.take (k+1))=yw (l.take k) (s.take k) (t.take k)+(zd l[k].o t[k]-zd l[k].o s[k])
 |[],_,_,k,h1,_,_=>by simp at h1
 |_::_,[],_,k,_,h2,_=>by simp at h2
 |_::_,_::_,[],k,_,_,h2=>by simp at h2
 |b::l,r::s,u::t,0,_,_,_=>by simp[yw]
 |b::l,r::s,u::t,k+1,h1,h2,h3=>by simp only[zu3,yw,zwg];rw[zck l s t k (by simpa using h1) (by simpa using h2) (by simpa using h3)];omega
theorem zfi:∀(l:List Wa) (s t:List Int),-(8000000000002*(l.length:Int))≤yw l s t∧yw l s t≤8000000000002*(l.length:Int)
 |[],_,_=>by simp[yw]
 |b::l,[],_=>by simp[yw];omega
 |b::l,_::_,[]=>by simp[yw];omega
 |b::l,r::s,u::t=>by have h1:=zfi l s t;have h2:=zB b.o u;have h3:=zB b.o r;simp only[yw,zvr,zwu,zw4];omega
def okCh(l:List Wa)(s t:List Int):Prop:=∀(k:Nat) (h1:k<l.length) (h2:k<s.length) (h3:k<t.length),zn s[k]=true∧zn t[k]=true∧za l[k].o=true∧za l[k].z=true
open Classical in
noncomputable def JP(l:List Wa)(s t:List Int):Int×Int×Int:=if s.length≠l.length∨t.length≠l.length then(0,0,1) else if okCh l s t then(if za (yy l t)=true∧za (yw l s t)=true then(yy l t,yw l s t,0) else(0,0,6)) else(0,0,1)
theorem zra{g:XH}{u v x y:XV}{o c:List Bu}{s t:List Int}(hu:RdX g 261 3 yb u o)(hv:RdX g 261 3 yb v c)(hx:RdX g 3 1 zY x s)(hy:RdX g 3 1 zY y t)(ho:o.length≤400)(hc:c.length≤400):
 Cl C (fun _=>False) 289 [.s u,.s v,.s x,.s y] g fun u g'=>u= .tup [.agg [xi (JP (zv o c) s t).1,xi (JP (zv o c) s t).2.1],fi (JP (zv o c) s t).2.2]∧g'=g:=by
 refine Cl.ip rfl (zuF rfl) fun Ψ hΨ=> ?_;simp;refine zb.go0 (Qg hu.app hv.app ho hc) ?_;have hfl:(zv o c).length≤800:=by have h1:=YD o [];have h2:=YE c (o.foldl qv []);simp only[zv1] at h1;unfold zv;rw[zJ,zu9];omega
 generalize zv o c=l at *;have hxl:∀J,Y6 (g++J) (.s x)=some s.length:=fun J=>hx.app.len;have hyl:∀J,Y6 (g++J) (.s y)=some t.length:=fun J=>hy.app.len;have bad:∀(n:Int) J,JP l s t=(0,0,n)→Gh (fun _=>False) g Ψ (.tup [.agg [xi 0,xi 0],fi n]) (g++J):=fun n J h=>Gh.pure (.t2 (.agg (.lts (by simp))) .i) (hΨ _ _ ⟨by rw[h],rfl⟩);simp[hxl,hyl];refine zc (fun h1=> ?_) (fun h1=> ?_)
 ·simp at h1⊢;exact bad 1 _ (by unfold JP;rw[zuO (.inl (by omega))])
 simp[hxl,hyl];refine zc (fun h2=> ?_) (fun h2=> ?_)
 ·simp at h2⊢;exact bad 1 _ (by unfold JP;rw[zuO (.inr (by omega))])
 simp at h1 h2;replace h1:s.length=l.length:=by omega
 replace h2:t.length=l.length:=by omega
 simp;refine Lp.genU (σ:=Unit) l.length (fun k _=>[(39,fi k)]) (fun k _=>g++[.own 0 82 2 [xi 0,xi 0],.own 0 82 2 [xi (yy (l.take k) (t.take k)),xi (yw (l.take k) (s.take k) (t.take k))]]) (fun k _=>∀(j:Nat),j<k→∀(h1:j<l.length) (h2:j<s.length) (h3:j<t.length),zn s[j]=true∧zn t[j]=true∧za l[j].o=true∧za l[j].z=true) () (by decide) rfl (by simp) (by simp[yy,yw]) (by omega) ?_ ?_
 ·rintro q hq ⟨⟩ hP hlt N hN;obtain⟨p1,cs1,o1,_,_,c3,c4⟩:=hx.at1 zG (k:=q) (by omega);obtain⟨p2,cs2,o2,_,_,d3,d4⟩:=hy.at1 zG (k:=q) (by omega);obtain⟨a1,a2,a3⟩:=atX yl hq;have e1:=zcf l t q hq (by omega);have e2:=zck l s t q hq (by omega) (by omega);have hb:=ze0 (l.take q) (t.take q);have hb2:=zfi (l.take q) (s.take q) (t.take q);have hb3:=zB l[q].z t[q];have hb4:=zB l[q].o t[q];have hb5:=zB l[q].o s[q];rw[zu0,zvu (by omega)] at hb hb2;have w1:IntKind.i64.wrap (yy (l.take q) (t.take q)+zd l[q].z t[q])=yy (l.take q) (t.take q)+zd l[q].z t[q]:=ze (by omega) (by omega);have w2:IntKind.i64.wrap (yy (l.take q) (t.take q)+zd l[q].z t[q]-zd l[q].o t[q])=yy (l.take (q+1)) (t.take (q+1)):=by rw[e1,ze (by omega) (by omega)];omega
  have w3:IntKind.i64.wrap (yw (l.take q) (s.take q) (t.take q)+zd l[q].o t[q])=yw (l.take q) (s.take q) (t.take q)+zd l[q].o t[q]:=ze (by omega) (by omega);have w4:IntKind.i64.wrap (yw (l.take q) (s.take q) (t.take q)+zd l[q].o t[q]-zd l[q].o s[q])=yw (l.take (q+1)) (s.take (q+1)) (t.take (q+1)):=by rw[e2,ze (by omega) (by omega)];omega
  have hno:(zn s[q]&&zn t[q]&&za l[q].o&&za l[q].z)=false→JP l s t=(0,0,1):=fun h=>by unfold JP;rw[zuQ (by omega),zuQ];intro hk;have:=hk q hq (by omega) (by omega);simp[this] at h
  simp[l289_0,hq,a1,a2,jK,zY,c3,c4];refine zb.pure (Zc ..) ?_;simp;refine zc (fun k1=> ?_) (fun k1=> ?_)
  rotate_left
  ·simp;exact bad 1 _ (hno (by simp[k1]))
  simp[d3,d4,zY];refine zb.pure (Zc ..) ?_;simp;refine zc (fun k2=> ?_) (fun k2=> ?_)
  rotate_left
  ·simp;exact bad 1 _ (hno (by simp[k2]))
  simp;refine zb.pure (yc ..) ?_;simp;refine zc (fun k3=> ?_) (fun k3=> ?_)
  rotate_left
  ·simp;exact bad 1 _ (hno (by simp[k3]))
  simp;refine zb.pure (yc ..) ?_;simp;refine zc (fun k4=> ?_) (fun k4=> ?_)
  rotate_left
  ·simp;exact bad 1 _ (hno (by simp[k4]))
  simp[c3,c4,zY];refine zb.pure (ofX ..) ?_;simp[d3,d4,zY];refine zb.pure (ofX ..) ?_;simp[d3,d4,zY];refine zb.pure (ofX ..) ?_;simp[w1,w2,w3,w4,yN hq (by omega)];exact zjC (fun fr g'=>hN () fr g' (fun j hj a b d=>if e:j<q then hP j e a b d else by
   obtain rfl:j=q:=by omega
   exact⟨k1,k2,k3,k4⟩)) rfl rfl (by simp) (by simpa using hlt) (by simp[lvO]) (by simp[lvO])
 ·rintro⟨⟩ hP;have hok:okCh l s t:=fun k h1 h2 h3=>hP k h1 h1 h2 h3;rw[zve,zvA (by omega),zvA (by omega)];have e0:JP l s t=if za (yy l t)=true∧za (yw l s t)=true then(yy l t,yw l s t,0) else(0,0,6):=by
   unfold JP;rw[zuQ (by omega),zuO hok]
  simp[l289_0];refine zb.pure (yc ..) ?_;simp;refine zc (fun k1=> ?_) (fun k1=> ?_)
  rotate_left
  ·simp;exact bad 6 _ (by rw[e0,zuQ (by simp[k1])])
  simp;refine zb.pure (yc ..) ?_;simp;refine zc (fun k2=> ?_) (fun k2=> ?_)
  rotate_left
  ·simp;exact bad 6 _ (by rw[e0,zuQ (by simp[k2])])
  simp;rw[zuO ⟨k1,k2⟩] at e0;exact Gh.pure (.t2 (.agg (.lts (by simp))) .i) (hΨ _ _ ⟨by rw[e0],rfl⟩)
abbrev zn0(l:List Bu):XV:= .lst 261 3 l.length (l.flatMap yb)
def zT(i:Inp):List XV:=[xs i.j,xi i.p,xi i.book,xi i.perm,xi i.judge,xi i.cap,xi i.life,xi i.up]
def zj(b:Bal):List XV:=[xi b.p,zn0 b.b,YI b.r,xi b.next,xi b.left,xi b.temp,xi b.loss,xi b.allow]
abbrev pC(i:Inp)(r:XV)(o c u m:List XV):List XV:=zT i++r::(o++(c++(u++m)))
def zF(p:Pro):List XV:=pC p.inp (xi p.rate) (zj p.op) (zj p.cl) (zD p.cur) [zhI p.rows,YI p.now,xi p.tm,xi p.tr,xi p.lm,xi p.lr,xi p.am,xi p.deferred,xi p.total]
theorem len7{α:Type}{l:List α}(h:l.length=7):∃a b c d e f i,l=[a,b,c,d,e,f,i]:=by
 match l,h with
 |[a,b,c,d,e,f,i],_=>exact⟨_,_,_,_,_,_,_,rfl⟩
theorem len8{α:Type}{l:List α}(h:l.length=8):∃a b c d e f i j,l=[a,b,c,d,e,f,i,j]:=by
 match l,h with
 |[a,b,c,d,e,f,i,j],_=>exact⟨_,_,_,_,_,_,_,_,rfl⟩
theorem len9{α:Type}{l:List α}(h:l.length=9):∃a b c d e f i j k,l=[a,b,c,d,e,f,i,j,k]:=by
 match l,h with
 |[a,b,c,d,e,f,i,j,k],_=>exact⟨_,_,_,_,_,_,_,_,_,rfl⟩
theorem zfJ{α:Type}{enc:α→List XV}{t z y f:Nat}{zs:List SV}(hf:C f=some (zlq t z y zs))(hzs:zs.length=z)(hnl:zs.all nlS=true)(he:∀a,(enc a).length=z)(hz:z≠0){g:XH}{v:XV}{l:List α}(r:RdX g t z enc v l)(hlv:∀m a,zw m (enc a))(hy:l.length*y≤140737488355328):
 Cl C (fun _=>False) f [.s v] g fun u g'=>u= .s (.lst t z l.length (l.flatMap enc))∧g'=g:=
 Fresh.frz (JQ hf hzs hnl he hz r (hlv _) hy) (zZ (hlv _) l) (by rw[zg he])
theorem zfK{g:XH}{v:XV}{l:List Int}(r:RdX g 3 1 zY v l)(hl:l.length≤1000000):Cl C (fun _=>False) 158 [.s v] g fun u g'=>u= .s (YI l)∧g'=g:=
 zfJ (z:=1) rfl rfl rfl zG (by decide) r (fun m a=>by simp[zY]) (by omega)
theorem znc{g:XH}{v:XV}{l:List Bu}(r:RdX g 261 3 yb v l)(hl:l.length≤1000000):Cl C (fun _=>False) 171 [.s v] g fun u g'=>u= .s (zn0 l)∧g'=g:=
 zfJ (z:=3) rfl rfl rfl zR (by decide) r (fun m a=>zaH a m) (by omega)
theorem zsP{g:XH}{v:XV}{l:List Wa}(r:RdX g 244 5 jK v l)(hl:l.length≤1000000):Cl C (fun _=>False) 159 [.s v] g fun u g'=>u= .s (zhI l)∧g'=g:=
 zfJ (z:=5) rfl rfl rfl yl (by decide) r (fun m a=>zfZ a m) (by omega)
@[simp] theorem Qy(m:Nat)(b:Bal):zw m (zj b):=by simp[zj]
@[simp] theorem zuz(m:Nat)(b:Res):zw m (zD b):=by simp[zD]
@[simp] theorem zuy(m:Nat)(b:Inp):zw m (zT b):=by simp[zT]
@[simp] theorem QA(m:Nat)(b:Pro):zw m (zF b):=by simp[zF]
structure BalL(b:Bal):Prop where
 lb:b.b.length≤400
 lr:b.r.length≤400
theorem zsD{g:XH}{b:Bal}(h:BalL b):Cl C (fun _=>False) 216 [.agg (zj b)] g fun u g'=>u= .agg (zj b)∧g'=g:=by have h1:=h.lb;have h2:=h.lr;refine Cl.ip rfl (zuF rfl) fun Ψ hΨ=> ?_;simp[zj];refine zz 5 [1] (fun _=>False) (by decide) (by decide) ?_;simp only[zu3,zvs,zvd,zu8];simp;refine zb.go0 (znc (RdX.lst _ b.b) (by omega)) ?_;simp;refine zb.go0 (zfK (RdX.lst _ b.r) (by omega)) ?_;simp;exact Gh.pure (u':= .agg (zj b)) (.agg (.lts (Qy _ b))) (hΨ _ _ ⟨rfl,rfl⟩)
theorem zp2{g:XH}:Cl C (fun _=>False) 226 [] g fun u g'=>u= .agg (zj yp)∧g'=g:=by refine Cl.ip rfl (zuF rfl) fun Ψ hΨ=> ?_;simp;exact Gh.pure (u':= .agg (zj yp)) (.agg (.cons (.lt (by simp)) (.cons .nil (.cons .nil (.lts (by simp)))))) (hΨ _ _ ⟨rfl,rfl⟩)
theorem Cl.lv{W:Nat→Prop}{f:Nat}{args:List XF}{g:XH}{Ψ:XF→XH→Prop}(h:(∀(i:Nat) (o:XO),g[i]? =some o→lvO g.length o)→Cl C W f args g Ψ):Cl C W f args g Ψ:=by rintro R args1 rfl H ra;exact h (fun i o e=>(H.ob i o e).lt) R args1 rfl H ra
theorem Y4{W:Nat→Prop}{g J:XH}{i:Nat}{o:XO}{Ψ:XF→XH→Prop}{u:XF}(hA:lvO g.length o)(hu:lvF g.length u)(h:Ψ u (g.set i o)):Gh W g Ψ u (g.set i o++J):=
 Gh.fz (FzH.refl.set i hA) (.lt hu) h
theorem zgd{W:Nat→Prop}{g:XH}{i:Nat}{o:XO}{Ψ:XF→XH→Prop}{u:XF}(hA:lvO g.length o)(hu:lvF g.length u)(h:Ψ u (g.set i o)):Gh W g Ψ u (g.set i o):=by
 have:=Y4 (W:=W) (J:=[]) (i:=i) hA hu h
 rwa [zvl] at this
abbrev TP:Nat:=84
def ProP(g:XH)(i:Nat)(inp:Inp)(r:XV)(o c u m:List XV):Prop:=g[i]? =some (.own 0 84 41 (pC inp r o c u m))∧o.length=8∧c.length=8∧u.length=7∧m.length=9
def zqD(t:List Rw)(inp:Inp)(rows:List Bu)(r next:Int)(rates:List Int):Prop:=jb t inp.j (inp.p.tdiv 4) inp.p=some r∧yZ t inp.j inp.p=(next,0)∧zO t inp.j inp.p (rows.map (·.y))=some rates
theorem zor{g:XH}{i:Nat}{inp:Inp}{r:XV}{o c u m:List XV}(hP:ProP g i inp r o c u m){a b:Nat}{t:List Rw}(ht:Yc 145 140 g a b t)(hl:t.length≤1000){rows:List Bu}(hr:rows.length≤1000)(hp:zm inp.p=true):
 Cl C (fun x=>x=i) 217 [.s (.ptr i 0 0),.s (.ptr a 0 0),.s (zn0 rows)] g fun v g'=>(∃r next rates,zqD t inp rows r next rates∧v=fi 0∧g'=g.set i (.own 0 84 41 (pC inp (xi r) o (zj ⟨inp.p,rows,rates,next,0,0,0,0⟩) u m)))∨(g'=g∧v=fi 7∧(jb t inp.j (inp.p.tdiv 4) inp.p=none∨(yZ t inp.j inp.p).2≠0∨zO t inp.j inp.p (rows.map (·.y))=none)):=by
 obtain⟨hi,ho,hc,hu,hm⟩:=hP;obtain⟨o0,o1,o2,o3,o4,o5,o6,o7,rfl⟩:=len8 ho;obtain⟨c0,c1,c2,c3,c4,c5,c6,c7,rfl⟩:=len8 hc;obtain⟨u0,u1,u2,u3,u4,u5,u6,rfl⟩:=len7 hu;obtain⟨m0,m1,m2,m3,m4,m5,m6,m7,m8,rfl⟩:=len9 hm;have li:=zf hi;have hy:Yr inp.p=inp.p.tdiv 4:=by unfold Yr;rw[zuO hp]
 refine Cl.lv fun hG=> ?_;have hlv:=hG i _ hi;simp[lvO,pC,zT] at hlv;refine Cl.ip rfl (zuF rfl) fun Ψ hΨ=> ?_;simp[pC,zT] at hi;simp[hi,li];refine zeM (fun _=>False) (by simp) ?_;simp;refine zb.pure (zla ..) ?_;rw[hy];simp;refine zb.go0 (zgV ht.app hl inp.j (inp.p.tdiv 4) inp.p) ?_;rcases h1:jb t inp.j (inp.p.tdiv 4) inp.p with _|r1
 ·simp;exact Gh.pure .i (hΨ _ _ (.inr ⟨rfl,rfl,.inl h1⟩))
 simp;refine zb.go0 (zhU ht.app hl inp.j inp.p) ?_;simp;refine zc (fun h2=> ?_) (fun h2=> ?_)
 ·simp at h2;have h3:(yZ t inp.j inp.p).2=7:=by
   unfold yZ at h2⊢;rw[zuO hp] at h2⊢;split at h2
   ·exact absurd rfl h2
   ·rfl
  simp;rw[h3];exact Gh.pure .i (hΨ _ _ (.inr ⟨rfl,rfl,.inr (.inl (by rw[h3];decide))⟩))
 simp at h2;have e2:yZ t inp.j inp.p=((yZ t inp.j inp.p).1,0):=by rw[←h2]
 simp;refine zb.go0 (zow ht.app hl inp.j inp.p (RdX.lst _ rows) hr) ?_;rcases h3:zO t inp.j inp.p (rows.map (·.y)) with _|rates
 ·rw[show Zq t inp.j inp.p (rows.map (·.y))= .tup [.s (.v .nils),fi 7] by simp[Zq,hp,h3]];simp;exact Gh.pure .i (hΨ _ _ (.inr ⟨rfl,rfl,.inr (.inr h3)⟩))
 rw[show Zq t inp.j inp.p (rows.map (·.y))= .tup [.s (YI rates),fi 0] by simp[Zq,hp,h3]];simp;refine zz 12 [7] (fun x=>x=i) (by decide) (by decide) ?_;simp only[zu3,zvs,zvd,zu8];simp[hi,li];exact⟨by omega,Y4 (by simp[lvO,hlv]) (by simp) (hΨ _ _ (.inl ⟨r1,_,rates,⟨h1,e2,h3⟩,rfl,rfl⟩))⟩
def zbn(rows:List Bu)(rates:List Int)(next left judge tm ls al:Int):Prop:=jS rows rates=(tm,0)∧zk left next=(ls,0)∧j8 ls judge=(al,0)
theorem ztU{g:XH}{i:Nat}{inp:Inp}{r:XV}{o u m:List XV}{p next left:Int}{rows:List Bu}{rates:List Int}(hP:ProP g i inp r o (zj ⟨p,rows,rates,next,left,0,0,0⟩) u m)(hr:rows.length≤1000):
 Cl C (fun x=>x=i) 222 [.s (.ptr i 0 0)] g fun v g'=>(∃tm ls al,zbn rows rates next left inp.judge tm ls al∧v=fi 0∧g'=g.set i (.own 0 84 41 (pC inp r o (zj ⟨p,rows,rates,next,left,tm,ls,al⟩) u m)))∨∃e X,e≠0∧v=fi e∧g'=g.set i X∧((jS rows rates).2=e∨((jS rows rates).2=0∧(zk left next).2=e)∨((jS rows rates).2=0∧(zk left next).2=0∧(j8 (zk left next).1 inp.judge).2=e)):=by
 obtain⟨hi,ho,hc,hu,hm⟩:=hP;obtain⟨o0,o1,o2,o3,o4,o5,o6,o7,rfl⟩:=len8 ho;obtain⟨u0,u1,u2,u3,u4,u5,u6,rfl⟩:=len7 hu;obtain⟨m0,m1,m2,m3,m4,m5,m6,m7,m8,rfl⟩:=len9 hm;have li:=zf hi;refine Cl.lv fun hG=> ?_;have hlv:=hG i _ hi;simp[lvO,pC,zT,zj] at hlv;refine Cl.ip rfl (zuF rfl) fun Ψ hΨ=> ?_;simp[pC,zT,zj] at hi;have hs:g.set i (.own 0 84 41 (pC inp r [o0,o1,o2,o3,o4,o5,o6,o7] (zj ⟨p,rows,rates,next,left,0,0,0⟩) [u0,u1,u2,u3,u4,u5,u6] [m0,m1,m2,m3,m4,m5,m6,m7,m8]))=g:=jc hi;simp[hi,li];refine zb.go0 (tempX (RdX.lst _ rows) (RdX.lst _ rates) hr) ?_;simp;refine zc (fun h1=> ?_) (fun h1=> ?_)
 ·simp at h1⊢;refine Gh.pure0 .i (hΨ _ _ (.inr ⟨_,_,h1,rfl,hs.symm,.inl rfl⟩))
 simp at h1;have e1:jS rows rates=((jS rows rates).1,0):=by rw[←h1]
 simp[hi,li];refine zb.pure (lossP ..) ?_;simp;refine zc (fun h2=> ?_) (fun h2=> ?_)
 ·simp at h2⊢;refine zgd (by simp[lvO,hlv]) (by simp) (hΨ _ _ (.inr ⟨_,_,h2,rfl,rfl,.inr (.inl ⟨h1,rfl⟩)⟩))
 simp at h2;have e2:zk left next=((zk left next).1,0):=by rw[←h2]
 simp[hi,li];refine zb.pure (zsB ..) ?_;simp;refine zc (fun h3=> ?_) (fun h3=> ?_)
 ·simp at h3⊢;refine zgd (by simp[lvO,hlv]) (by simp) (hΨ _ _ (.inr ⟨_,_,h3,rfl,rfl,.inr (.inr ⟨h1,h2,rfl⟩)⟩))
 simp at h3;have e3:j8 (zk left next).1 inp.judge=((j8 (zk left next).1 inp.judge).1,0):=by rw[←h3]
 simp[hi,li];exact zgd (by simp[lvO,hlv]) (by simp) (hΨ _ _ (.inl ⟨_,_,_,⟨e1,e2,e3⟩,rfl,rfl⟩))
theorem Yc.set{T R:Nat}{g:XH}{a b i:Nat}{X:XO}{t:List Rw}(h:Yc T R g a b t)(ha:a≠i)(hb:b≠i):Yc T R (g.set i X) a b t:=by obtain⟨w,h1,h2⟩:=h;exact⟨w,by rw[zH ha.symm];exact h1,by rw[zH hb.symm];exact h2⟩
theorem zaL{l:List Int}{k:Nat}(hk:k<l.length):(l.flatMap zY)[k]? =some (xi l[k]):=by have:=(atX zG hk).2.2 0 (by decide);simpa[zY] using this
theorem keyCP(x:Bu)(w:Wa){g:XH}{a:Nat}(ha:g[a]? =some (.own 0 244 5 (jK w))):Cl C (fun _=>False) 288 [.agg (yb x),.s (.ptr a 0 0)] g fun u g'=>u=fb (jm w.c w.y x)∧g'=g:=by
 have la:=zf ha;refine Cl.ip rfl (zuF rfl) fun Ψ hΨ=> ?_;simp[yb,jK] at ha⊢;simp[ha,la]
 repeat' first|(refine zc (fun hc=> ?_) (fun hc=> ?_)<;>try simp[yb,ha,la])
 all_goals(refine Gh.pure (.s (.lt (by simp))) (hΨ _ _ ⟨?_,rfl⟩);simp at *;simp[jm, *])
theorem zbL(c y now:Int):∀(l:List Bu) (s:List Int) (k:Nat),(ym (jm c y) k l= -1∧ZS l s c y now=now)∨∃i,ym (jm c y) k l=((k+i:Nat):Int)∧i<l.length∧((∃h:i<s.length,ZS l s c y now=s[i])∨(s.length≤i∧ZS l s c y now=now))
 |[],_,_=> .inl ⟨rfl,by simp[ZS]⟩
 |b::l,s,k=>by
  unfold ym;cases hk:jm c y b with
  |true=>
   refine .inr ⟨0,by simp,by simp,?_⟩;cases s with
   |nil=>exact .inr ⟨zuL _,by simp[ZS]⟩
   |cons r s=>exact .inl ⟨by simp,by simp[ZS,hk]⟩
  |false=>
   cases s with
   |nil=>
    rcases zbL c y now l [] (k+1) with⟨h1,_⟩|⟨i,h1,h2,_⟩
    ·exact .inl ⟨by simpa using h1,by simp[ZS]⟩
    ·exact .inr ⟨i+1,by simp only[zva,if_false];rw[h1];congr 1;omega,by simpa using h2,.inr ⟨by simp,by simp[ZS]⟩⟩
   |cons r s=>
    have e:ZS (b::l) (r::s) c y now=ZS l s c y now:=by simp[ZS,hk]
    rw[e];rcases zbL c y now l s (k+1) with⟨h1,h2⟩|⟨i,h1,h2,h3⟩
    ·exact .inl ⟨by simpa using h1,h2⟩
    ·refine .inr ⟨i+1,by simp only[zva,if_false];rw[h1];congr 1;omega,by simpa using h2,?_⟩;rcases h3 with⟨h3,h4⟩|⟨h3,h4⟩
     ·exact .inl ⟨by simpa using h3,by simpa using h4⟩
     ·exact .inr ⟨by simpa using h3,h4⟩
theorem zd1(op:Bal):∀(l:List Wa) (s:List Int) (k:Nat) (h1:k<l.length) (h2:k<s.length),yA op (l.take (k+1)) (s.take (k+1))=yA op (l.take k) (s.take k)++[ZS op.b op.r l[k].c l[k].y s[k]]
 |[],_,k,h1,_=>by simp at h1
 |_::_,[],k,_,h2=>by simp at h2
 |b::l,r::s,0,_,_=>by simp[yA]
 |b::l,r::s,k+1,h1,h2=>by simp only[zu3,yA,zwg,zv5];rw[zd1 op l s k (by simpa using h1) (by simpa using h2)]
theorem zbM(op:Bal):∀(l:List Wa) (s:List Int),l.length=s.length→(yA op l s).length=l.length
 |[],[],_=>by simp[yA]
 |[],_::_,h=>by simp at h
 |_::_,[],h=>by simp at h
 |b::l,r::s,h=>by simp only[yA,zvr];rw[zbM op l s (by simpa using h)]
theorem ZV(t:List Rw)(j:ByteArray)(p:Int):∀(l:List Int) (m:List Int),zO t j p l=some m→m.length=l.length
 |[],m,h=>by
  simp[zO] at h;rw[←h]
 |y::l,m,h=>by
  simp only[zO] at h;cases hr:jb t j (max y (p.tdiv 4)) p with
  |none=>rw[hr] at h;cases h
  |some r=>
   rw[hr] at h;obtain⟨m',h1,rfl⟩:=zuI.1 h;simp[ZV t j p l m' h1]
theorem Zu(o c:List Bu):(zv o c).length≤o.length+c.length:=by have h1:=YD o [];have h2:=YE c (o.foldl qv []);simp only[zv1] at h1;unfold zv;rw[zJ,zu9];omega
def zkm(t:List Rw)(inp:Inp)(op:Bal)(ways:List Wa)(now:List Int)(tm tr:Int):Prop:=zO t inp.j inp.p (ways.map (·.y))=some now∧JP ways (yA op ways now) now=(tm,tr,0)
def zna(t:List Rw)(inp:Inp)(op:Bal)(ways:List Wa)(e:Int):Prop:=(zO t inp.j inp.p (ways.map (·.y))=none∧e=7)∨∃now,zO t inp.j inp.p (ways.map (·.y))=some now∧(JP ways (yA op ways now) now).2.2=e∧e≠0
theorem ztV{g:XH}{i:Nat}{inp:Inp}{r:XV}{op cl:Bal}{u m:List XV}(hP:ProP g i inp r (zj op) (zj cl) u m)(hop:BalL op)(hcl:BalL cl){a b:Nat}{t:List Rw}(ht:Yc 145 140 g a b t)(hai:a≠i)(hbi:b≠i)(hl:t.length≤1000)(hp:zm inp.p=true):
 Cl C (fun x=>x=i) 224 [.s (.ptr i 0 0),.s (.ptr a 0 0)] g fun v g'=>(∃now tm tr,zkm t inp op (zv op.b cl.b) now tm tr∧v=fi 0∧g'=g.set i (.own 0 84 41 (pC inp r (zj op) (zj cl) u ([zhI (zv op.b cl.b),YI now,xi tm,xi tr]++m.drop 4))))∨∃e X,zna t inp op (zv op.b cl.b) e∧v=fi e∧g'=g.set i X:=by
 obtain⟨hi,ho,hc,hu,hm⟩:=hP;obtain⟨u0,u1,u2,u3,u4,u5,u6,rfl⟩:=len7 hu;obtain⟨m0,m1,m2,m3,m4,m5,m6,m7,m8,rfl⟩:=len9 hm;have li:=zf hi;have hol:=hop.lb;have hor:=hop.lr;have hcb:=hcl.lb;refine Cl.lv fun hG=> ?_;have hlv:=hG i _ hi;simp[lvO,pC,zT,zj] at hlv;refine Cl.ip rfl (zuF rfl) fun Ψ hΨ=> ?_;simp[pC,zT,zj] at hi;simp[hi,li];refine zb.go0 (Qg (RdX.lst _ op.b) (RdX.lst _ cl.b) hol hcb) ?_;have hwl:=Zu op.b cl.b;generalize hways:zv op.b cl.b=ways at *;simp[hi,li];generalize hGG:g.set i _=G;change XH at G;have hG1:=(congrArg (fun G:XH=>G[i]?) hGG).symm;rw[yo li] at hG1;have hGl:G.length=g.length:=by rw[←hGG,zvi]
 have liG:i<G.length:=by omega
 have htG:Yc 145 140 G a b t:=by rw[←hGG];exact ht.set hai hbi
 have hset:∀X,G.set i X=g.set i X:=fun X=>by rw[←hGG,List.set_set]
 clear hGG;rw[←hGl];refine Lp.genG 261 3 (σ:=Nat) ways.length (fun k w=>[(5,.s (.sl G.length w 0 k)),(33,fi k)]) (fun k w=>G++[.own w 261 3 (((ways.take k).map fun x=>(⟨x.c,x.y,0⟩:Bu)).flatMap yb)]) (fun k w=>True) 0 (by decide) rfl (by simp[GhF]) (by simp) trivial ?_ ?_
 ·rintro q hq w _ hlt N hN;obtain⟨a1,a2,_⟩:=atX yl hq;have e1:(ways.take (q+1)).map (fun x=>(⟨x.c,x.y,0⟩:Bu))=(ways.take q).map (fun x=>(⟨x.c,x.y,0⟩:Bu))++[⟨ways[q].c,ways[q].y,0⟩]:=by rw[zu6 hq,zvp];rfl
  have hfl:(((ways.take q).map fun x=>(⟨x.c,x.y,0⟩:Bu)).flatMap yb).length=q*3:=by rw[zg zR];simp;omega
  rw[e1] at hN;rw[zvw] at hN;have hlF:∀m,zw m (((ways.take q).map fun x=>(⟨x.c,x.y,0⟩:Bu)).flatMap yb):=fun m=>JT m _;generalize((ways.take q).map fun x=>(⟨x.c,x.y,0⟩:Bu)).flatMap yb=F at *;simp[l224_0,hq,a1,a2,jK,hfl,show(q+1)*24≤140737488355328 by omega,yN hq (by omega)];exact jo (fun fr g'=>hN (w+1) fr g' trivial) (by simp[yb]) (by simp) (by simpa using hlt) (by simp[lvO,hlF,yb])
 ·rintro w _;simp[l224_0,hG1,liG];have hall:RdX (G++[.own w 261 3 ((ways.map fun x=>(⟨x.c,x.y,0⟩:Bu)).flatMap yb)]) 261 3 yb (.sl G.length w 0 (ways.map fun x=>(⟨x.c,x.y,0⟩:Bu)).length) (ways.map fun x=>(⟨x.c,x.y,0⟩:Bu)):=RdX.sl zR (by simp);have hq:=zow htG.app hl inp.j inp.p hall (by simp;omega);rw[zu9,zwN] at hq;have ey:((fun x:Bu=>x.y)∘fun x:Wa=>(⟨x.c,x.y,0⟩:Bu))=fun x=>x.y:=rfl;rw[ey] at hq;refine zb.go0 hq ?_;clear hq hall;rcases h1:zO t inp.j inp.p (ways.map (·.y)) with _|now
  ·rw[show Zq t inp.j inp.p (ways.map (·.y))= .tup [.s (.v .nils),fi 7] by simp[Zq,hp,h1]];simp;rw[←jc hG1,hset];exact Y4 (by simp[lvO,hlv]) (by simp) (hΨ _ _ (.inr ⟨7,_,.inl ⟨h1,rfl⟩,rfl,rfl⟩))
  rw[show Zq t inp.j inp.p (ways.map (·.y))= .tup [.s (YI now),fi 0] by simp[Zq,hp,h1]];have hnl:=ZV _ _ _ _ _ h1;rw[zu9] at hnl;simp[hG1,liG];rw[hset];generalize hHH:g.set i _=H;change XH at H;have hH1:=(congrArg (fun G:XH=>G[i]?) hHH).symm;rw[yo li] at hH1;have hHl:H.length=g.length:=by rw[←hHH,zvi]
  have hsetH:∀X,H.set i X=g.set i X:=fun X=>by rw[←hHH,List.set_set]
  clear hHH;rw[show G.length=H.length by omega];clear hG1 liG htG hset;generalize hK:H++[XO.own w 261 3 ((ways.map fun x=>(⟨x.c,x.y,0⟩:Bu)).flatMap yb)]=K;have hK1:K[i]? =some (.own 0 84 41 [xs inp.j,xi inp.p,xi inp.book,xi inp.perm,xi inp.judge,xi inp.cap,xi inp.life,xi inp.up,r,xi op.p,zn0 op.b,YI op.r,xi op.next,xi op.left,xi op.temp,xi op.loss,xi op.allow,xi cl.p,zn0 cl.b,YI cl.r,xi cl.next,xi cl.left,xi cl.temp,xi cl.loss,xi cl.allow,u0,u1,u2,u3,u4,u5,u6,zhI ways,YI now,m2,m3,m4,m5,m6,m7,m8]):=by rw[←hK,zq (by omega)];exact hH1
  have liK:i<K.length:=zf hK1;have hKH:H.length≤K.length:=by rw[←hK];simp
  have hHK:∃J,K=H++J:=⟨_,hK.symm⟩
  clear hK;refine zb.go (JQ (z:=1) (enc:=zY) rfl rfl rfl zG (by decide) (RdX.lst K now) (fun a=>by simp[zY]) (by omega)) (fun _ _ h=>h.elim) ?_;rintro v g' ⟨w2,rfl,rfl⟩;simp[hK1,liK];refine Lp.genU (σ:=Unit) ways.length (fun k _=>[(76,fi k)]) (fun k _=>K++[.own w2 3 1 ((yA op (ways.take k) (now.take k)++now.drop k).flatMap zY)]) (fun k _=>True) () (by decide) rfl (by simp) (by simp[yA]) trivial ?_ ?_
  ·rintro q hq _ _ hlt N hN;obtain⟨a1,a2,_⟩:=atX yl hq;have hqn:q<now.length:=by omega
   have o1:=zd1 op ways now q hq hqn;have ol:=zbM op (ways.take q) (now.take q) (by simp;omega);rw[zu0,zvu (by omega)] at ol;have hMl:(yA op (ways.take q) (now.take q)++now.drop q).length=now.length:=by simp[ol];omega
   obtain⟨nq,hnq⟩:∃n,n=now[q]'hqn:=⟨_,rfl⟩
   rw[←hnq] at o1;have hMq:∀h,(yA op (ways.take q) (now.take q)++now.drop q)[q]'h=nq:=fun h=>by
    have e:(yA op (ways.take q) (now.take q)++now.drop q)[q]? =now[q]? :=by rw[zuN (by omega),ol,zvG,zvH,zwa]
    rw[zuV h,zuV hqn,←hnq] at e;exact zuG e
   have hM2:yA op (ways.take (q+1)) (now.take (q+1))++now.drop (q+1)=(yA op (ways.take q) (now.take q)++now.drop q).set q (ZS op.b op.r ways[q].c ways[q].y nq):=by rw[o1,zvO _ _ (by omega),ol,zvG,zvq hqn,←hnq,zvc];rfl
   rw[hM2] at hN;clear hM2;generalize yA op (ways.take q) (now.take q)++now.drop q=M at *;have hqM:q<M.length:=by omega
   have hMq:=hMq hqM;have h2:=zg zG M;have hcs:¬M.flatMap zY=[]:=fun e=>by rw[e] at h2;simp at h2;omega
   have hs:=jW zG (l:=M) (k:=q) (by omega) (c:=0) (by decide) (v:=xi (ZS op.b op.r ways[q].c ways[q].y nq)) (x:=ZS op.b op.r ways[q].c ways[q].y nq) rfl [];simp only[zvl,zxS,zwa] at hs;simp[l224_1,hq,a1,a2,jK,hK1,liK,show H.length≤K.length+1 by omega];refine zb.go0 (Yu (q:=jm ways[q].c ways[q].y) (f:=287) rfl zR (by decide) (RdX.lst _ op.b) (by omega) (.inr ⟨K.length+2,288,[],[.s (.ptr (K.length+1) 0 0)],rfl,by simp,fun x _=>keyCP x ways[q] (by simp[jK])⟩)) ?_;have same:ZS op.b op.r ways[q].c ways[q].y nq=nq→∀fr J,fr=(qs [(0,some (.s (.ptr i 0 0))),(8,some (.s (YI now))),(10,some (.s (.sl K.length w2 0 now.length))),(74,some (.s (zhI ways))),(75,some (fi ways.length)),(76,some (fi 0))] [(76,fi ((q+1:Nat):Int))])→N fr (K++XO.own w2 3 1 (M.flatMap zY)::J):=fun he fr J hf=>by refine jo (fun fr g'=>hN () fr g' trivial) ?_ hf (by simpa using hlt) (by simp[lvO]);rw[he,←hMq,zw7]
   rcases zbL ways[q].c ways[q].y nq op.b op.r 0 with⟨f1,f2⟩|⟨k,f1,f2,f3⟩
   ·simp[f1,hK1,liK,yN hq (by omega)];exact same f2 _ _ (by simp)
   ·rw[zvn] at f1;simp[f1,hK1,liK];rcases f3 with⟨f3,f4⟩|⟨f3,f4⟩
    ·simp[f3,hK1,liK,zaL f3,f4.symm,hKH,hqM,hcs,hs,h2,show q<now.length by omega,show q+1≤M.length by omega,show¬M=[] from fun e=>by rw[e] at hqM;simp at hqM,yN hq (by omega)];exact jo (fun fr g'=>hN () fr g' trivial) rfl (by simp) (by simpa using hlt) (by simp[lvO])
    ·simp[show¬k<op.r.length by omega,hK1,liK,yN hq (by omega)];exact same f4 _ _ (by simp)
  ·rintro _ _;rw[zve,zvA (by omega),List.drop_of_length_le (by omega),zvl];have hol:=zbM op ways now (by omega);simp[l224_1,hK1,liK];have hrd:RdX (K++[.own w2 3 1 ((yA op ways now).flatMap zY)]) 3 1 zY (.sl K.length w2 0 now.length) (yA op ways now):=by
    have:=RdX.sl (g:=K++[.own w2 3 1 ((yA op ways now).flatMap zY)]) (i:=K.length) (w:=w2) (t:=3) zG (l:=yA op ways now) (by simp);rw[hol,←hnl] at this;exact this
   have hT:=zra (o:=op.b) (c:=cl.b) (RdX.lst _ op.b) (RdX.lst _ cl.b) hrd (RdX.lst _ now) (by omega) hcb;refine zb.go0 hT ?_;clear hT hrd;obtain⟨J,rfl⟩:=hHK;have liH:i<H.length:=by omega
   rw[hways];generalize hX:JP ways (yA op ways now) now=X at *;obtain⟨tm,tr,e⟩:=X;simp[hH1,liH,hK1];rw[hsetH];by_cases he:e=0
   ·subst he;exact Y4 (by simp[lvO,hlv]) (by simp) (hΨ _ _ (.inl ⟨now,tm,tr,⟨h1,hX⟩,rfl,rfl⟩))
   ·exact Y4 (by simp[lvO,hlv]) (by simp) (hΨ _ _ (.inr ⟨e,_,.inr ⟨now,h1,by rw[hX],he⟩,rfl,rfl⟩))
theorem zp6(a b:Int):Pure C 290 [fi a,fi b] (fi (wr (a-b))):=by refine Pure.intro0 (e:=e290) rfl (zuF rfl) (by simp) fun g Ψ h0 hJ=> ?_;simp;exact h0
theorem zox(a b:Int):Pure C 291 [.agg [xi a,xi b]] (fi (wr (a+b))):=by refine Pure.intro0 (e:=e291) rfl (zuF rfl) (by simp) fun g Ψ h0 hJ=> ?_;simp;exact hJ _
structure Cost where
 lm:Int
 lr:Int
 am:Int
 de:Int
 tot:Int
def yV(op cl:Bal)(tax up tm tr:Int):Cost:=
 let lr:=wr (zd op.left op.next-zd op.left cl.next);let lm:=wr (wr (op.loss-cl.loss)-lr);let am:=wr (op.allow-cl.allow);let de:=wr (wr (wr (wr (tm+tr)+lm)+lr)+am)
 ⟨lm,lr,am,de,wr (wr (tax+de)+up)⟩
def Jn(op cl:Bal)(tax up tm tr:Int):List Int:=
 let c:=yV op cl tax up tm tr
 [c.lm,c.lr,c.am,wr (tax+up),wr (cl.temp-op.temp),wr (cl.loss-op.loss),wr (cl.allow-op.allow),c.de,c.tot]
set_option maxRecDepth 8000 in
theorem zoq{g:XH}{i:Nat}{inp:Inp}{r:XV}{op cl:Bal}{cur:Res}{tm tr:Int}{ways now m4 m5 m6 m7 m8:XV}(hP:ProP g i inp r (zj op) (zj cl) (zD cur) [ways,now,xi tm,xi tr,m4,m5,m6,m7,m8]):
 Cl C (fun x=>x=i) 225 [.s (.ptr i 0 0)] g fun v g'=>v=fi (if(Jn op cl cur.tax inp.up tm tr).all za then 0 else 6)∧g'=g.set i (.own 0 84 41 (pC inp r (zj op) (zj cl) (zD cur) [ways,now,xi tm,xi tr,xi (yV op cl cur.tax inp.up tm tr).lm,xi (yV op cl cur.tax inp.up tm tr).lr,xi (yV op cl cur.tax inp.up tm tr).am,xi (yV op cl cur.tax inp.up tm tr).de,xi (yV op cl cur.tax inp.up tm tr).tot])):=by
 obtain⟨hi,ho,hc,hu,hm⟩:=hP;have li:=zf hi;refine Cl.lv fun hG=> ?_;have hlv:=hG i _ hi;simp[lvO,pC,zT,zj,zD] at hlv;refine Cl.ip rfl (zuF rfl) fun Ψ hΨ=> ?_;simp[pC,zT,zj,zD] at hi;simp[hi,li];refine zz 11 [0] (fun _=>False) (by decide) (by decide) ?_;simp only[zu3,zvs,zvd,zu8];simp[hi,li];refine zb.pure (ofX ..) ?_;simp[hi,li];refine zb.pure (ofX ..) ?_;simp[hi,li];refine zb.pure (zp6 ..) ?_;simp[hi,li];refine zz 20 [0] (fun _=>False) (by decide) (by decide) ?_;simp only[zu3,zvs,zvd,zu8];simp[hi,li];refine zb.pure (zox ..) ?_;simp[hi,li];refine Lp.genU (σ:=Unit) 9 (fun k _=>[(152,fi k)]) (fun _ _=>g.set i (.own 0 84 41 (pC inp r (zj op) (zj cl) (zD cur) [ways,now,xi tm,xi tr,xi (yV op cl cur.tax inp.up tm tr).lm,xi (yV op cl cur.tax inp.up tm tr).lr,xi (yV op cl cur.tax inp.up tm tr).am,xi (yV op cl cur.tax inp.up tm tr).de,xi (yV op cl cur.tax inp.up tm tr).tot]))++[.own 0 77 8 (zj op),.own 0 77 8 (zj cl),.own 0 3 1 ((Jn op cl cur.tax inp.up tm tr).flatMap zY)]) (fun k _=>∀(j:Nat) (h:j<(Jn op cl cur.tax inp.up tm tr).length),j<k→za (Jn op cl cur.tax inp.up tm tr)[j]=true) () (by decide) rfl (by simp) rfl (by omega) ?_ ?_
 all_goals have hlv2:lvO g.length (.own 0 84 41 (pC inp r (zj op) (zj cl) (zD cur) [ways,now,xi tm,xi tr,xi (yV op cl cur.tax inp.up tm tr).lm,xi (yV op cl cur.tax inp.up tm tr).lr,xi (yV op cl cur.tax inp.up tm tr).am,xi (yV op cl cur.tax inp.up tm tr).de,xi (yV op cl cur.tax inp.up tm tr).tot])):=by simp[lvO,pC,hlv]
 all_goals generalize XO.own 0 84 41 (pC inp r (zj op) (zj cl) (zD cur) [ways,now,xi tm,xi tr,xi (yV op cl cur.tax inp.up tm tr).lm,xi (yV op cl cur.tax inp.up tm tr).lr,xi (yV op cl cur.tax inp.up tm tr).am,xi (yV op cl cur.tax inp.up tm tr).de,xi (yV op cl cur.tax inp.up tm tr).tot])=X at *
 all_goals have hl9:(Jn op cl cur.tax inp.up tm tr).length=9:=rfl
 all_goals generalize Jn op cl cur.tax inp.up tm tr=l at *
 ·rintro q hq _ hP hlt N hN;have hql:q<l.length:=by omega
  have e:=zaL hql;simp[l225_0,show(q:Int)<9 by omega,hq,e];refine zb.pure (yc ..) ?_;simp;refine zc (fun h1=> ?_) (fun h1=> ?_)
  ·simp[yN hq (by omega)];exact qJ () hN (fun j h hj=>if hjq:j<q then hP j h hjq else by
    obtain rfl:j=q:=by omega
    exact h1) (by simp) (by simp)
  ·simp;refine Y4 hlv2 (by simp) (hΨ _ _ ⟨?_,rfl⟩);have:l.all za=false:=by
    rw[zxr];exact⟨_,zvk hql,by simp[h1]⟩
   simp[this]
 ·rintro _ hP;simp[l225_0];refine Y4 hlv2 (by simp) (hΨ _ _ ⟨?_,rfl⟩);have:l.all za=true:=by
   rw[zu4];intro x hx;obtain⟨j,hj,rfl⟩:=zwU hx;exact hP j hj (by omega)
  simp[this]
theorem jk{α:Type}(lt:α→α→Bool)(b:α):∀(l:List α),(ZL lt b l).Perm (b::l)
 |[]=>List.Perm.refl _
 |x::r=>by
  unfold ZL;split
  ·exact List.Perm.refl _
  ·exact((jk lt b r).cons x).trans (List.Perm.swap b x r)
theorem yB{α:Type}(lt:α→α→Bool):∀(l:List α),(zt lt l).Perm l
 |[]=>List.Perm.refl _
 |x::r=>by unfold zt;exact(jk lt x _).trans ((yB lt r).cons x)
theorem zix{α:Type}(f:α→Int){l m:List α}(h:l.Perm m):(l.map f).sum=(m.map f).sum:=by
 induction h with
 |nil=>rfl
 |cons x _ ih=>simp[ih]
 |swap x y l=>simp;omega
 |trans _ _ h1 h2=>exact h1.trans h2
def zez(a b:Vi):Prop:=¬(a.o=b.o∧a.e=b.e)
theorem zbG{a b:Vi}:(ltV a b||ltV b a)=true↔zez a b:=by unfold zez;simp[ltV];omega
theorem y6:∀{l:List Vi},jH ltV l=true↔l.Pairwise zez
 |[]=>by simp[jH]
 |x::l=>by simp only[jH,zuP,zu4,zu7,y6 (l:=l)];exact⟨fun h=>⟨fun y hy=>zbG.1 (h.1 y hy),h.2⟩,fun h=>⟨fun y hy=>zbG.2 (h.1 y hy),h.2⟩⟩
theorem LosI.perm{l m:List Vi}(h:LosI l)(p:m.Perm l):LosI m:=by
 refine⟨by rw[p.length_eq];exact h.len,fun v hv=>h.m v (p.mem_iff.1 hv),?_,?_⟩
 ·have:zx m=zx l:=zix _ p;rw[this];exact h.t
 ·rw[y6] at *;have h':=y6.1 h.d;refine(p.symm.pairwise h' ?_);intro a b k e;exact k ⟨e.1.symm,e.2.symm⟩
theorem LosI.cons{v:Vi}{l:List Vi}(h:LosI (v::l)):LosI l:=by have h1:=h.m v (by simp);have h2:=J4 (l:=l) fun x hx=>h.m x (by simp[hx]);have h3:=h.t;have h4:=h.len;refine⟨by simp at h4;omega,fun x hx=>h.m x (by simp[hx]),?_,y6.2 (zu7.1 (y6.1 h.d)).2⟩;simp only[zx,zu2,zwm,za,zuW] at h3 h2;exact zvZ (by unfold zx;constructor<;>omega)
theorem znU{l:List Vi}(h:∀v∈l,0≤v.n∧za v.n=true){v:Vi}(hv:v∈l):v.n≤zx l:=by
 induction l with
 |nil=>simp at hv
 |cons x l ih=>
  have h1:=h x (by simp);have h2:=J4 (l:=l) fun x hx=>h x (by simp[hx]);simp only[zx,zu2,zwm] at ih h2⊢;rcases zuX.1 hv with rfl|hv
  ·omega
  ·have:=ih (fun x hx=>h x (by simp[hx])) hv;omega
theorem zfg(o e n:Int):∀(l:List Vi),l.any (Yv o e)=true→zx (QT o e n l)=zx l+n∧(QT o e n l).length=l.length∧(QT o e n l).map (fun v=>(v.o,v.e))=l.map (fun v=>(v.o,v.e))∧∀v∈QT o e n l,v∈l∨∃x∈l,v.n=x.n+n
 |[],h=>by simp at h
 |x::l,h=>by
  unfold QT;split
  ·refine⟨by simp[zx];omega,by simp,by simp,fun v hv=> ?_⟩;rcases zuX.1 hv with rfl|hv
   ·exact .inr ⟨x,by simp,rfl⟩
   ·exact .inl (by simp[hv])
  ·rename_i hx;obtain⟨h1,h2,h3,h4⟩:=zfg o e n l (by simpa[hx] using h);refine⟨by simp only[zx,zu2,zwm] at h1⊢;omega,by simp[h2],by simp[h3],fun v hv=> ?_⟩;rcases zuX.1 hv with rfl|hv
   ·exact .inl (by simp)
   ·rcases h4 v hv with h|⟨y,hy,e⟩
    ·exact .inl (by simp[h])
    ·exact .inr ⟨y,by simp[hy],e⟩
theorem ze9{l m:List Vi}(h:m.map (fun v=>(v.o,v.e))=l.map (fun v=>(v.o,v.e)))(k:l.Pairwise zez):m.Pairwise zez:=by have h1:(l.map (fun v:Vi=>(v.o,v.e))).Pairwise (fun a b=>¬(a.1=b.1∧a.2=b.2)):=zwS.2 k;rw[←h] at h1;exact(zwS (f:=fun v:Vi=>(v.o,v.e))).1 h1
theorem zpY{l:List Vi}(h:LosI l){o e n:Int}(h0:(QQ l o e n).1=0):LosI (QQ l o e n).2:=by
 unfold QQ at h0⊢;split at h0
 ·simp at h0
 rename_i k1;rw[zuQ k1];split at h0
 ·simp at h0
 rename_i k2;rw[zuQ k2];have hn:1≤n:=by omega
 have ht:za (zx l+n)=true:=by simpa using k2
 split at h0
 ·rename_i k3;rw[zuO k3];obtain⟨h1,h2,h3,h4⟩:=zfg o e n l k3;refine⟨by rw[h2];exact h.len,fun v hv=> ?_,by rw[h1];exact ht,y6.2 (ze9 h3 (y6.1 h.d))⟩;rcases h4 v hv with hv|⟨x,hx,e⟩
  ·exact h.m v hv
  ·have a1:=h.m x hx;have a2:=znU h.m hx;simp[za] at a1 ht⊢;omega
 ·rename_i k3;rw[zuQ k3];split at h0
  ·simp at h0
  rename_i k4;rw[zuQ k4];refine LosI.perm ?_ (yB ltV _);refine⟨by simp;omega,fun v hv=> ?_,?_,?_⟩
  ·rcases zuY.1 hv with hv|hv
   ·exact h.m v hv
   ·rw[zvm] at hv;subst hv;have:za n=true:=by simp at k1;exact k1.2.2
    exact⟨by show 0≤n;omega,this⟩
  ·simp only[zx,zvp,zwJ,zu2,zv9,zxL] at ht⊢;exact ht
  ·refine y6.2 (zxz.2 ⟨y6.1 h.d,by simp,fun a ha b hb=> ?_⟩);rw[zvm] at hb;subst hb;rintro⟨e1,e2⟩;exact k3 (zwF.2 ⟨a,ha,by simp[Yv,e1,e2]⟩)
theorem zpL:∀{l:List Vi} {us:List Int},LosI l→(∀j (h1:j<us.length) (h2:j<l.length),0≤us[j]∧us[j]≤l[j].n)→us.length=l.length→let m:=List.zipWith Yd l us;(∀v∈m,0≤v.n∧za v.n=true)∧zx m≤zx l∧m.map (fun v=>(v.o,v.e))=l.map (fun v=>(v.o,v.e))
 |[],[],_,_,_=>by simp[zx]
 |[],_::_,_,_,h=>by simp at h
 |_::_,[],_,_,h=>by simp at h
 |v::l,u::us,hI,hj,hl=>by
  have h0:=hj 0 (by simp) (by simp);simp only[List.getElem_cons_zero] at h0;obtain⟨h1,h2,h3⟩:=zpL (l:=l) (us:=us) hI.cons (fun j a b=>by have:=hj (j+1) (by simpa using a) (by simpa using b);simpa using this) (by simpa using hl);have hv:=hI.m v (by simp);refine⟨fun x hx=> ?_,?_,?_⟩
  ·rw[zxq] at hx;rcases zuX.1 hx with rfl|hx
   ·have:=hv.2;simp[za] at this;exact⟨by show 0≤v.n-u;omega,zvZ (by show -100000000000≤v.n-u∧v.n-u≤100000000000;omega)⟩
   ·exact h1 x hx
  ·have e1:zx (List.zipWith Yd (v::l) (u::us))=(v.n-u)+zx (List.zipWith Yd l us):=by simp[zx,Yd]
   have e2:zx (v::l)=v.n+zx l:=by simp[zx]
   rw[e1,e2];omega
  ·simp[Yd,h3]
theorem zlI(l:List Vi):zx (l.filter fun v=> !(v.n==0))=zx l:=by
 induction l with
 |nil=>rfl
 |cons x l ih=>
  by_cases h:x.n=0
  ·rw[List.filter_cons_of_neg (by simp[h]),ih];simp[zx,h]
  ·rw[List.filter_cons_of_pos (by simp[h])];simp only[zx,zu2,zwm] at ih⊢;rw[ih]
theorem zoU{l:List Vi}{us:List Int}(hI:LosI l)(hj:∀j (h1:j<us.length) (h2:j<l.length),0≤us[j]∧us[j]≤l[j].n)(hl:us.length=l.length):LosI (Q6 l us):=by
 rw[zbV];obtain⟨h1,h2,h3⟩:=zpL hI hj hl;have hz:=J4 h1;have ht:=hI.t;refine⟨?_,fun v hv=>h1 v (zvx.1 hv).1,?_,?_⟩
 ·have a:=zv6 (fun v:Vi=> !(v.n==0)) (List.zipWith Yd l us);have b:=hI.len;rw[List.length_zipWith] at a;omega
 ·rw[zlI];simp[za] at ht⊢;omega
 ·exact y6.2 ((ze9 h3 (y6.1 hI.d)).sublist zwi)
theorem zk4{l:List Vi}(hI:LosI l)(book perm moved cap life year r:Int){res:Res}{left:List Vi}(h:Zz l book perm moved cap life year r=(0,res,left)):LosI left:=by
 unfold Zz at h;split at h
 ·simp at h
 split at h
 ·simp at h
 rename_i k1 k2;have hk:=hI.kept year;have hnm:za (book+perm-moved)=true:=by simp[Jv,Jw] at k2;rw[zw2,zxR];exact k2.2.2.2.2
 generalize book+perm-moved=n at *;simp only at h;split at h
 ·simp only[zuH,true_and] at h;rw[←h.2];have hr:=Qh n cap hnm;exact zoU hk (zgY year _ _ hr.1 fun v hv=>(hk.m v hv).1) (YR _ _ _)
 split at h
 ·split at h
  ·rename_i k3;simp only[zuH,true_and] at h;rw[←h.2];exact zpY hk k3
  ·rename_i k3;simp at h;exact absurd h.1 k3
 ·simp only[zuH,true_and] at h;rw[←h.2];exact hk
def J7(l:List Wa):Int:=l.foldl (fun n r=>wr (n+r.m)) 0
theorem zmf{g:XH}{u v:XV}{o c:List Bu}(hu:RdX g 261 3 yb u o)(hv:RdX g 261 3 yb v c)(ho:o.length≤400)(hc:c.length≤400):
 Cl C (fun _=>False) 219 [.s u,.s v] g fun u g'=>u=fi (J7 (zv o c))∧g'=g:=by
 refine Cl.ip rfl (zuF rfl) fun Ψ hΨ=> ?_;simp;refine zb.go0 (Qg hu hv ho hc) ?_;have hwl:=Zu o c;generalize zv o c=l at *;simp;refine Lp.foldU l (fun k (s:Int)=>[(5,fi s),(12,fi k)]) (fun _ _=>g) (fun n r=>wr (n+r.m)) 0 (by decide) rfl (by simp) rfl ?_ ?_
 ·rintro q hq s hs hlt N hN;obtain⟨a1,a2,_⟩:=atX yl hq;simp[l219_0,hq,a1,a2,jK,yN hq (by omega)];exact Jb hN (by simp) (by simp)
 ·rintro s rfl;simp[l219_0];exact Gh.here (hΨ _ _ ⟨rfl,rfl⟩)
noncomputable def jw(t:List Rw)(inp:Inp)(op:Bal)(l:List Vi)(rows:List Bu):Int×Pro×List Vi:=
 if¬zm inp.p=true∨¬zn inp.judge=true∨¬za inp.up=true then(1,zr,[])
 else match jb t inp.j (inp.p.tdiv 4) inp.p with
  |none=>(7,zr,[])
  |some r=>
   if(yZ t inp.j inp.p).2≠0 then(7,zr,[])
   else match zO t inp.j inp.p (rows.map (·.y)) with
    |none=>(7,zr,[])
    |some rates=>
     let next:=(yZ t inp.j inp.p).1
     let ways:=zv op.b rows;let tx:=Zz l inp.book inp.perm (J7 ways) inp.cap inp.life (inp.p.tdiv 4) r
     if tx.1≠0 then(tx.1,zr,[])
     else
      let left:=zx tx.2.2
      if(jS rows rates).2≠0 then((jS rows rates).2,zr,[])
      else if(zk left next).2≠0 then((zk left next).2,zr,[])
      else if(j8 (zk left next).1 inp.judge).2≠0 then((j8 (zk left next).1 inp.judge).2,zr,[])
      else match zO t inp.j inp.p (ways.map (·.y)) with
       |none=>(7,zr,[])
       |some now=>
        let ch:=JP ways (yA op ways now) now
        if ch.2.2≠0 then(ch.2.2,zr,[])
        else
         let cl:Bal:=⟨inp.p,rows,rates,next,left,(jS rows rates).1,(zk left next).1,(j8 (zk left next).1 inp.judge).1⟩
         let c:=yV op cl tx.2.1.tax inp.up ch.1 ch.2.1
         if(Jn op cl tx.2.1.tax inp.up ch.1 ch.2.1).all za then(0,⟨inp,r,op,cl,tx.2.1,ways,now,ch.1,ch.2.1,c.lm,c.lr,c.am,c.de,c.tot⟩,tx.2.2) else(6,zr,[])
def zkC(x:Int×Pro×List Vi):XF:= .tup [.agg (zF x.2.1),.s (if x.1=0 then lpV x.2.2 else .v .nilp),fi x.1]
def YS:List XV:=[xs ⟨#[]⟩,xi 0,xi 0,xi 0,xi 0,xi 0,xi 0,xi 0,xi 0]++([xi 0,.v .nils,.v .nils,xi 0,xi 0,xi 0,xi 0,xi 0]++([xi 0,.v .nils,.v .nils,xi 0,xi 0,xi 0,xi 0,xi 0]++([xi 0,xi 0,xi 0,xi 0,xi 0,xi 0,.v .nils]++[.v .nils,.v .nils,xi 0,xi 0,xi 0,xi 0,xi 0,xi 0,xi 0])))
abbrev mkG(g:XH)(a:Nat)(inp:Inp)(op:Bal)(cur:Res)(s:List XV):XH:=g++[.own 0 62 1 [.ptr a 0 0],.own 0 74 8 (zT inp),.own 0 77 8 (zj op),.own 0 84 41 YS,.own 0 84 41 s,.own 0 300 1 [.ptr (g.length+4) 0 0],.own 0 79 7 (zD cur),.clo 222 [.s (.ptr (g.length+4) 0 0)] [],.clo 223 [] [.s (.ptr (g.length+5) 0 0),.s (.ptr g.length 0 0)],.clo 225 [.s (.ptr (g.length+4) 0 0)] [],.own 0 109 1 [.cl (g.length+7),.cl (g.length+8),.cl (g.length+9)]]
def mkS(t:List Rw)(inp:Inp)(op:Bal)(rows:List Bu)(rates:List Int)(r next lf:Int)(cur:Res):Nat→List XV→Prop
 |0,s=>s=pC inp (xi r) (zj op) (zj ⟨inp.p,rows,rates,next,lf,0,0,0⟩) (zD cur) [.v .nils,.v .nils,xi 0,xi 0,xi 0,xi 0,xi 0,xi 0,xi 0]
 |1,s=>∃tm ls al,zbn rows rates next lf inp.judge tm ls al∧s=pC inp (xi r) (zj op) (zj ⟨inp.p,rows,rates,next,lf,tm,ls,al⟩) (zD cur) [.v .nils,.v .nils,xi 0,xi 0,xi 0,xi 0,xi 0,xi 0,xi 0]
 |2,s=>∃tm ls al now cm cr,zbn rows rates next lf inp.judge tm ls al∧zkm t inp op (zv op.b rows) now cm cr∧s=pC inp (xi r) (zj op) (zj ⟨inp.p,rows,rates,next,lf,tm,ls,al⟩) (zD cur) [zhI (zv op.b rows),YI now,xi cm,xi cr,xi 0,xi 0,xi 0,xi 0,xi 0]
 |_,s=>∃tm ls al now cm cr,zbn rows rates next lf inp.judge tm ls al∧zkm t inp op (zv op.b rows) now cm cr∧(Jn op ⟨inp.p,rows,rates,next,lf,tm,ls,al⟩ cur.tax inp.up cm cr).all za=true∧∃c,c=yV op ⟨inp.p,rows,rates,next,lf,tm,ls,al⟩ cur.tax inp.up cm cr∧s=zF ⟨inp,r,op,⟨inp.p,rows,rates,next,lf,tm,ls,al⟩,cur,zv op.b rows,now,cm,cr,c.lm,c.lr,c.am,c.de,c.tot⟩
theorem zkp{n0:Nat}{J:XH}{K:List (Option Nat)}{O:XH}:FzVs n0 J K O YS (zF zr):=by
 have l0:∀n,lvV n0 (xi n):=fun n=>by simp
 have ls:lvV n0 (xs ⟨#[]⟩):=by simp
 exact .cons (.lt ls) (.cons (.lt (l0 _)) (.cons (.lt (l0 _)) (.cons (.lt (l0 _)) (.cons (.lt (l0 _)) (.cons (.lt (l0 _)) (.cons (.lt (l0 _)) (.cons (.lt (l0 _)) (.cons (.lt (l0 _))
  (.cons (.lt (l0 _)) (.cons .nil (.cons .nil (.cons (.lt (l0 _)) (.cons (.lt (l0 _)) (.cons (.lt (l0 _)) (.cons (.lt (l0 _)) (.cons (.lt (l0 _))
  (.cons (.lt (l0 _)) (.cons .nil (.cons .nil (.cons (.lt (l0 _)) (.cons (.lt (l0 _)) (.cons (.lt (l0 _)) (.cons (.lt (l0 _)) (.cons (.lt (l0 _))
  (.cons (.lt (l0 _)) (.cons (.lt (l0 _)) (.cons (.lt (l0 _)) (.cons (.lt (l0 _)) (.cons (.lt (l0 _)) (.cons (.lt (l0 _)) (.cons .nil
  (.cons .nil (.cons .nil (.cons (.lt (l0 _)) (.cons (.lt (l0 _)) (.cons (.lt (l0 _)) (.cons (.lt (l0 _)) (.cons (.lt (l0 _)) (.cons (.lt (l0 _)) (.cons (.lt (l0 _)) .nil))))))))))))))))))))))))))))))))))))))))
theorem znY(g:XH)(l:List Vi):zfz g (lpV l) l:=⟨_,.inl rfl,RdX.lst g l⟩
theorem YB.app{g J:XH}{i:Nat}{l:List Bu}(h:YB g i l):YB (g++J) i l:=by unfold YB at h⊢;rw[zq (zf h)];exact h
noncomputable def Jy(t:List Rw)(inp:Inp)(op:Bal)(rows:List Bu)(rates:List Int)(r next lf:Int)(cur:Res)(left:List Vi):Int×Pro×List Vi:=
 if(jS rows rates).2≠0 then((jS rows rates).2,zr,[])
 else if(zk lf next).2≠0 then((zk lf next).2,zr,[])
 else if(j8 (zk lf next).1 inp.judge).2≠0 then((j8 (zk lf next).1 inp.judge).2,zr,[])
 else match zO t inp.j inp.p ((zv op.b rows).map (·.y)) with
  |none=>(7,zr,[])
  |some now=>
   let ch:=JP (zv op.b rows) (yA op (zv op.b rows) now) now
   if ch.2.2≠0 then(ch.2.2,zr,[])
   else
    let cl:Bal:=⟨inp.p,rows,rates,next,lf,(jS rows rates).1,(zk lf next).1,(j8 (zk lf next).1 inp.judge).1⟩
    let c:=yV op cl cur.tax inp.up ch.1 ch.2.1
    if(Jn op cl cur.tax inp.up ch.1 ch.2.1).all za then(0,⟨inp,r,op,cl,cur,zv op.b rows,now,ch.1,ch.2.1,c.lm,c.lr,c.am,c.de,c.tot⟩,left) else(6,zr,[])
theorem zjv{g:XH}{a:Nat}{inp:Inp}{op:Bal}{cur:Res}{s:List XV}:(mkG g a inp op cur s)[g.length+4]? =some (.own 0 84 41 s):=by simp
theorem zkD{g:XH}{a:Nat}{inp:Inp}{op:Bal}{cur:Res}{s s':List XV}:(mkG g a inp op cur s).set (g.length+4) (.own 0 84 41 s')=mkG g a inp op cur s':=by simp
theorem zqO{g:XH}{a:Nat}{inp:Inp}{op:Bal}{cur:Res}{s s':List XV}(ha:a<g.length)(h:zw g.length s'):Old (mkG g a inp op cur s').length (mkG g a inp op cur s) (mkG g a inp op cur s'):=by
 refine .loc fun o ho=> ?_;have h1:zw (g.length+11) s':=zw.mono (by omega) _ h;have h2:a<g.length+11:=by omega
 have h3:(mkG g a inp op cur s').length=g.length+11:=by simp
 rw[h3];simp only[zuX,zvS,or_false] at ho;rcases ho with rfl|rfl|rfl|rfl|rfl|rfl|rfl|rfl|rfl|rfl|rfl
 all_goals first|(simp[lvO,h1,h2];done)|(simp[lvO,YS];done)
theorem zp3{t:List Rw}{inp:Inp}{op:Bal}{rows:List Bu}{rates:List Int}{r next lf:Int}{cur:Res}{left:List Vi}{e:Int}(he:e≠0)(h:(jS rows rates).2=e∨((jS rows rates).2=0∧(zk lf next).2=e)∨((jS rows rates).2=0∧(zk lf next).2=0∧(j8 (zk lf next).1 inp.judge).2=e)):Jy t inp op rows rates r next lf cur left=(e,zr,[]):=by
 unfold Jy;rcases h with h|⟨h1,h⟩|⟨h1,h2,h⟩
 ·rw[zuO (by rw[h];exact he),h]
 ·rw[zuQ (by simp[h1]),zuO (by rw[h];exact he),h]
 ·rw[zuQ (by simp[h1]),zuQ (by simp[h2]),zuO (by rw[h];exact he),h]
theorem zp7{t:List Rw}{inp:Inp}{op:Bal}{rows:List Bu}{rates:List Int}{r next lf:Int}{cur:Res}{left:List Vi}{tm ls al e:Int}(hb:zbn rows rates next lf inp.judge tm ls al)(h:zna t inp op (zv op.b rows) e):e≠0∧Jy t inp op rows rates r next lf cur left=(e,zr,[]):=by
 obtain⟨h1,h2,h3⟩:=hb;unfold Jy;simp only[h1,h2,h3,ne_eq,not_true_eq_false,if_false];rcases h with⟨h,rfl⟩|⟨now,h,h4,h5⟩
 ·rw[h];exact⟨by decide,rfl⟩
 ·rw[h];simp only[h4,h5,not_false_eq_true,if_true];exact⟨trivial,trivial⟩
theorem zeJ{t:List Rw}{inp:Inp}{op:Bal}{rows:List Bu}{rates:List Int}{r next lf:Int}{cur:Res}{left:List Vi}{tm ls al:Int}{now:List Int}{cm cr:Int}(hb:zbn rows rates next lf inp.judge tm ls al)(h:zkm t inp op (zv op.b rows) now cm cr):Jy t inp op rows rates r next lf cur left=
 let cl:Bal:=⟨inp.p,rows,rates,next,lf,tm,ls,al⟩
 let c:=yV op cl cur.tax inp.up cm cr
 if(Jn op cl cur.tax inp.up cm cr).all za then(0,⟨inp,r,op,cl,cur,zv op.b rows,now,cm,cr,c.lm,c.lr,c.am,c.de,c.tot⟩,left) else(6,zr,[]):=by
 obtain⟨h1,h2,h3⟩:=hb;obtain⟨h4,h5⟩:=h;unfold Jy;simp only[h1,h2,h3,h4,h5,ne_eq,not_true_eq_false,if_false]
theorem zqP{g:XH}{a:Nat}{t:List Rw}{inp:Inp}{op:Bal}{rows:List Bu}(hrl:rows.length≤400){rates:List Int}{r next lf:Int}{cur:Res}{left:List Vi}{s:List XV}(hs:mkS t inp op rows rates r next lf cur 0 s):
 Cl C (fun x=>x=g.length+4) 222 [.s (.ptr (g.length+4) 0 0)] (mkG g a inp op cur s) fun v g'=>(∃s',mkS t inp op rows rates r next lf cur 1 s'∧v=fi 0∧g'=mkG g a inp op cur s'∧zw g.length s')∨∃e X,e≠0∧Jy t inp op rows rates r next lf cur left=(e,zr,[])∧v=fi e∧g'=(mkG g a inp op cur s).set (g.length+4) X:=by
 have hs:s=_:=hs;refine(ztU (i:=g.length+4) (inp:=inp) (r:=xi r) (o:=zj op) (u:=zD cur) (m:=[.v .nils,.v .nils,xi 0,xi 0,xi 0,xi 0,xi 0,xi 0,xi 0]) (p:=inp.p) (rows:=rows) (rates:=rates) (next:=next) (left:=lf) ⟨by rw[hs];exact zjv,rfl,rfl,rfl,rfl⟩ (by omega)).mono ?_;rintro v g' (⟨tm,ls,al,h1,rfl,rfl⟩|⟨e,X,he,rfl,rfl,h1⟩)
 ·exact .inl ⟨_,⟨tm,ls,al,h1,rfl⟩,rfl,zkD,by simp[pC]⟩
 ·exact .inr ⟨e,X,he,zp3 he h1,rfl,rfl⟩
theorem zqR{g:XH}{a:Nat}{t:List Rw}{inp:Inp}{op:Bal}{rows:List Bu}{rates:List Int}{r next lf:Int}{cur:Res}{left:List Vi}{s:List XV}(hs:mkS t inp op rows rates r next lf cur 2 s):
 Cl C (fun x=>x=g.length+4) 225 [.s (.ptr (g.length+4) 0 0)] (mkG g a inp op cur s) fun v g'=>(∃s',mkS t inp op rows rates r next lf cur 3 s'∧v=fi 0∧g'=mkG g a inp op cur s'∧zw g.length s')∨∃e X,e≠0∧Jy t inp op rows rates r next lf cur left=(e,zr,[])∧v=fi e∧g'=(mkG g a inp op cur s).set (g.length+4) X:=by
 obtain⟨tm,ls,al,now,cm,cr,b1,b2,hs⟩:=hs;have hq:=zeJ (t:=t) (inp:=inp) (op:=op) (rows:=rows) (rates:=rates) (r:=r) (next:=next) (lf:=lf) (cur:=cur) (left:=left) b1 b2;refine(zoq (i:=g.length+4) (inp:=inp) (r:=xi r) (op:=op) (cl:=⟨inp.p,rows,rates,next,lf,tm,ls,al⟩) (cur:=cur) (tm:=cm) (tr:=cr) (ways:=zhI (zv op.b rows)) (now:=YI now) (m4:=xi 0) (m5:=xi 0) (m6:=xi 0) (m7:=xi 0) (m8:=xi 0) ⟨by rw[hs];exact zjv,rfl,rfl,rfl,rfl⟩).mono ?_;rintro v g' ⟨rfl,rfl⟩;by_cases hc:(Jn op ⟨inp.p,rows,rates,next,lf,tm,ls,al⟩ cur.tax inp.up cm cr).all za=true
 ·rw[zuO hc];exact .inl ⟨_,⟨tm,ls,al,now,cm,cr,b1,b2,hc,_,rfl,rfl⟩,rfl,zkD,QA _ _⟩
 ·rw[zuQ hc];simp only[zuQ hc] at hq;exact .inr ⟨6,_,by decide,hq,rfl,rfl⟩
theorem zqQ{g:XH}{a b:Nat}{t:List Rw}(ht:Yc 145 140 g a b t)(hl:t.length≤1000){inp:Inp}{op:Bal}(hop:BalL op){rows:List Bu}(hrl:rows.length≤400){rates:List Int}(hrr:rates.length≤400){r next lf:Int}{cur:Res}{left:List Vi}(hp:zm inp.p=true){s:List XV}(hs:mkS t inp op rows rates r next lf cur 1 s):
 Cl C (fun x=>x=g.length+4) 223 [.s (.ptr (g.length+5) 0 0),.s (.ptr g.length 0 0)] (mkG g a inp op cur s) fun v g'=>(∃s',mkS t inp op rows rates r next lf cur 2 s'∧v=fi 0∧g'=mkG g a inp op cur s'∧zw g.length s')∨∃e X,e≠0∧Jy t inp op rows rates r next lf cur left=(e,zr,[])∧v=fi e∧g'=(mkG g a inp op cur s).set (g.length+4) X:=by
 obtain⟨tm,ls,al,b1,hs⟩:=hs;have la:a<g.length:=by obtain⟨w,h1,_⟩:=ht;exact zf h1
 have lb:b<g.length:=by obtain⟨w,_,h1⟩:=ht;exact zf h1
 have hc:=ztV (g:=mkG g a inp op cur s) (i:=g.length+4) (inp:=inp) (r:=xi r) (op:=op) (cl:=⟨inp.p,rows,rates,next,lf,tm,ls,al⟩) (u:=zD cur) (m:=[.v .nils,.v .nils,xi 0,xi 0,xi 0,xi 0,xi 0,xi 0,xi 0]) ⟨by rw[hs];exact zjv,rfl,rfl,rfl,rfl⟩ hop ⟨hrl,hrr⟩ (a:=a) (b:=b) (t:=t) ht.app (by omega) (by omega) hl hp;refine Cl.ip rfl (zuF rfl) fun Ψ hΨ=> ?_;simp;refine zb.go hc (fun x hx e=> .inr e) ?_;rintro v g' (⟨now,cm,cr,b2,rfl,rfl⟩|⟨e,X,hb,rfl,rfl⟩)
 ·simp;refine Gh.here (hΨ _ _ (.inl ⟨_,⟨tm,ls,al,now,cm,cr,b1,b2,rfl⟩,rfl,by simp,by simp[pC]⟩))
 ·simp;obtain⟨he,h2⟩:=zp7 (r:=r) (cur:=cur) (left:=left) b1 hb;refine Gh.here (hΨ _ _ (.inr ⟨e,X,he,h2,rfl,by simp⟩))
theorem YY(p:Pro):(zF p).length=41:=by simp[zF,pC,zT,zj,zD]
set_option maxRecDepth 8000 in
set_option maxHeartbeats 2000000 in
theorem zq5{g:XH}{a b ri:Nat}{t:List Rw}(ht:Yc 145 140 g a b t)(hl:t.length≤1000)(inp:Inp){op:Bal}(hop:BalL op){l:List Vi}(hI:LosI l){reg:List Bu}(hr:YB g ri reg)(hrl:reg.length≤400)(hd:jH ltB reg=true):
 Cl C (fun _=>False) 150 [.s (.ptr a 0 0),.agg (zT inp),.agg (zj op),.s (lpV l),.s (.ptr ri 0 0)] g fun u g'=>u=zkC (jw t inp op l (zt ltB reg))∧g'=g:=by
 refine Cl.lv fun hG=> ?_;refine Cl.ip rfl (zuF rfl) fun Ψ hΨ=> ?_;have bad:∀(e:Int) J,e≠0→jw t inp op l (zt ltB reg)=(e,zr,[])→Gh (fun _=>False) g Ψ (.tup [.agg YS,.s (.v .nilp),fi e]) (g++J):=fun e J he h=>
  Gh.pure (u':=zkC (e,zr,[])) (.cons (.agg zkp) (.cons (.s (by rw[zuQ he];exact .lt (by simp))) (.cons .i .nil))) (hΨ _ _ ⟨by rw[h],rfl⟩)
 simp[zT,zj];refine zb.pure (Zg ..) ?_;simp;refine zc (fun k1=> ?_) (fun k1=> ?_)
 rotate_left
 ·simp;exact bad 1 _ (by decide) (by unfold jw;rw[zuO (.inl (by simp[k1]))])
 simp;refine zb.pure (Zc ..) ?_;simp;refine zc (fun k2=> ?_) (fun k2=> ?_)
 rotate_left
 ·simp;exact bad 1 _ (by decide) (by unfold jw;rw[zuO (.inr (.inl (by simp[k2])))])
 simp;refine zb.pure (yc ..) ?_;simp;refine zc (fun k3=> ?_) (fun k3=> ?_)
 rotate_left
 ·simp;exact bad 1 _ (by decide) (by unfold jw;rw[zuO (.inr (.inr (by simp[k3])))])
 have k0:¬(¬zm inp.p=true∨¬zn inp.judge=true∨¬za inp.up=true):=by simp[k1,k2,k3]
 have e0:=Eq.refl (jw t inp op l (zt ltB reg))
 conv at e0=>rhs;unfold jw;rw[zuQ k0]
 simp;refine zz 3 [6] (fun _=>False) (by decide) (by decide) ?_;simp only[zu3,zvs,zvd,zu8];simp;refine zb.go0 (zsD hop) ?_;simp[zj];refine zz 4 [5,13] (fun _=>False) (by decide) (by decide) ?_;simp only[zu3,zvs,zvd,zu8];simp;refine zb.go0 (zq9 hr.app (by omega) hd) ?_;have hrows:(zt ltB reg).length=reg.length:=zJ ltB reg;rw[←hrows];generalize zt ltB reg=rows at *;simp;refine zb.go (zor (i:=g.length+4) (inp:=inp) (r:=xi 0) (o:=zj op) (c:=[xi 0,.v .nils,.v .nils,xi 0,xi 0,xi 0,xi 0,xi 0]) (u:=[xi 0,xi 0,xi 0,xi 0,xi 0,xi 0,.v .nils]) (m:=[.v .nils,.v .nils,xi 0,xi 0,xi 0,xi 0,xi 0,xi 0,xi 0]) ⟨by simp[pC,zT,zj],rfl,rfl,rfl,rfl⟩ ht.app hl (rows:=rows) (by omega) k1) (fun x hx e=>⟨.inl (by omega),.inr trivial⟩) ?_;rintro v g' (⟨r,next,rates,⟨q1,q2,q3⟩,rfl,rfl⟩|⟨rfl,rfl,q⟩)
 rotate_left
 ·simp;exact bad 7 _ (by decide) (by
   rw[e0];rcases q with q|q|q
   ·rw[q]
   ·cases jb t inp.j (inp.p.tdiv 4) inp.p with
    |none=>rfl
    |some r=>simp only[q,ne_eq,not_false_eq_true,if_true]
   ·cases jb t inp.j (inp.p.tdiv 4) inp.p with
    |none=>rfl
    |some r=>simp only[q,ite_self])
 rw[q1] at e0;simp only[q2,q3,ne_eq,not_true_eq_false,if_false] at e0;simp[pC,zT,zj];refine zb.go0 (zmf (RdX.lst _ op.b) (RdX.lst _ rows) hop.lb (by omega)) ?_;have hwl:=Zu op.b rows;have hol:=hop.lb;simp;refine zz 17 [6,13] (fun _=>False) (by decide) (by decide) ?_;simp only[zu3,zvs,zvd,zu8];simp;refine zb.pure (zla ..) ?_;have hy:Yr inp.p=inp.p.tdiv 4:=by unfold Yr;rw[zuO k1]
 rw[hy];simp;refine zb.go0 (zsV (znY _ l) hI inp.book inp.perm (J7 (zv op.b rows)) inp.cap inp.life (inp.p.tdiv 4) r) ?_;have htx:=fun res left=>zk4 hI inp.book inp.perm (J7 (zv op.b rows)) inp.cap inp.life (inp.p.tdiv 4) r (res:=res) (left:=left);generalize Zz l inp.book inp.perm (J7 (zv op.b rows)) inp.cap inp.life (inp.p.tdiv 4) r=tx at *;obtain⟨e,cur,left⟩:=tx;by_cases he:e=0
 rotate_left
 ·simp only[he,not_false_eq_true,if_true] at e0;rw[show zj1 (e,cur,left)= .tup [.agg (zD qO),.s (.v .nilp),fi e] by simp[zj1,he]];simp[zD,qO,show(e !=0)=true by simpa using he];exact bad e _ he e0
 subst he;have hIl:=htx cur left rfl;have hll:=hIl.len;clear htx;simp only[not_true_eq_false,if_false] at e0;rw[show zj1 (0,cur,left)= .tup [.agg (zD cur),.s (lpV left),fi 0] by simp[zj1]];simp[zD];refine zdf 3 8 [13,16] (fun x=>x=g.length+4) (by decide) (by decide) (by decide) ?_;simp only[zu3,zvs,zvd,zu8];simp;refine zb.go0 (zky (znY _ left) (by omega) (fun v hv=>(hIl.m v hv).2)) ?_;simp;refine Lp.genU (σ:=List XV) 3 (fun k _=>[(107,fi k)]) (fun _ s=>mkG g a inp op cur s) (mkS t inp op rows rates r next (zx left) cur) (pC inp (xi r) (zj op) (zj ⟨inp.p,rows,rates,next,zx left,0,0,0⟩) (zD cur) [.v .nils,.v .nils,xi 0,xi 0,xi 0,xi 0,xi 0,xi 0,xi 0]) (by decide) rfl (by simp) rfl rfl ?_ ?_
 ·rintro q hq s hs hlt N hN;have la:a<g.length:=by
   obtain⟨w,h1,_⟩:=ht;exact zf h1
  have hrr:rates.length≤400:=by have:=ZV _ _ _ _ _ q3;rw[zu9] at this;omega
  have step:∀(f:Nat) (args:List XF),Cl C (fun x=>x=g.length+4) f args (mkG g a inp op cur s) (fun v g'=>(∃s',mkS t inp op rows rates r next (zx left) cur (q+1) s'∧v=fi 0∧g'=mkG g a inp op cur s'∧zw g.length s')∨∃e X,e≠0∧Jy t inp op rows rates r next (zx left) cur left=(e,zr,[])∧v=fi e∧g'=(mkG g a inp op cur s).set (g.length+4) X)→∀K:XF→XH→Prop,(∀s',mkS t inp op rows rates r next (zx left) cur (q+1) s'→zw g.length s'→K (fi 0) (mkG g a inp op cur s'))→(∀e X,e≠0→Jy t inp op rows rates r next (zx left) cur left=(e,zr,[])→K (fi e) ((mkG g a inp op cur s).set (g.length+4) X))→xCX C (fun i=>g.length≤i∨False) f args (mkG g a inp op cur s) K .mk:=by
   intro f args hc K h1 h2;refine zb.go hc (fun x hx e=> .inl (by omega)) ?_;rintro v g' (⟨s',k1,rfl,rfl,k2⟩|⟨e,J,k1,k2,rfl,rfl⟩)
   ·exact h1 s' k1 k2
   ·exact h2 e J k1 k2
  have hz:YS.length=41:=rfl;have hS:∀X,X.length=41→setX YS 0 X=X:=fun X h=>ZX (by rw[h,hz]);have go:∀s' fr,mkS t inp op rows rates r next (zx left) cur (q+1) s'→zw g.length s'→fr=qs [(10,some (.s (.ptr (g.length+3) 0 0))),(13,some (.s (.ptr (g.length+5) 0 0))),(17,some (.s (lpV left))),(105,some (.s (.sl (g.length+10) 0 0 3))),(106,some (fi 3)),(107,some (fi 0))] [(107,fi ((q+1:Nat):Int))]→N fr (mkG g a inp op cur s'):=fun s' fr h1 h2 hf=>
   hN s' _ _ h1 ⟨hf,⟨[],by simp⟩,by simp,by simp,zqO la h2⟩
  have fail:∀e J,e≠0→Jy t inp op rows rates r next (zx left) cur left=(e,zr,[])→Gh (fun _=>False) g Ψ (.tup [.agg YS,.s (.v .nilp),fi e]) (g++J):=fun e J k1 k2=>bad e J k1 (e0.trans k2)
  clear hN bad hΨ e0 hG;obtain rfl|rfl|rfl:q=0∨q=1∨q=2:=by omega
  ·have h0:=zqP (g:=g) (a:=a) (t:=t) (inp:=inp) (op:=op) (rows:=rows) (rates:=rates) (r:=r) (next:=next) (lf:=zx left) (cur:=cur) (left:=left) (s:=s) (by omega) hs;simp[l150_0];refine step _ _ h0 _ (fun s' h1 h2=> ?_) (fun e X k1 k2=> ?_)
   ·simp[show IntKind.i64.wrap 1=1 from rfl,show IntKind.i64.wrap 2=2 from rfl,show IntKind.i64.wrap 3=3 from rfl];exact go s' _ h1 h2 (by simp)
   ·simp[show(e !=0)=true by simpa using k1,YS];exact fail e _ k1 k2
  ·have h0:=zqQ (g:=g) (a:=a) (t:=t) (inp:=inp) (op:=op) (rows:=rows) (rates:=rates) (r:=r) (next:=next) (lf:=zx left) (cur:=cur) (left:=left) (s:=s) ht hl hop (by omega) hrr (by assumption) hs;simp[l150_0];refine step _ _ h0 _ (fun s' h1 h2=> ?_) (fun e X k1 k2=> ?_)
   ·simp[show IntKind.i64.wrap 1=1 from rfl,show IntKind.i64.wrap 2=2 from rfl,show IntKind.i64.wrap 3=3 from rfl];exact go s' _ h1 h2 (by simp)
   ·simp[show(e !=0)=true by simpa using k1,YS];exact fail e _ k1 k2
  ·have h0:=zqR (g:=g) (a:=a) (t:=t) (inp:=inp) (op:=op) (rows:=rows) (rates:=rates) (r:=r) (next:=next) (lf:=zx left) (cur:=cur) (left:=left) (s:=s) hs;simp[l150_0];refine step _ _ h0 _ (fun s' h1 h2=> ?_) (fun e X k1 k2=> ?_)
   ·simp[show IntKind.i64.wrap 1=1 from rfl,show IntKind.i64.wrap 2=2 from rfl,show IntKind.i64.wrap 3=3 from rfl];exact go s' _ h1 h2 (by simp)
   ·simp[show(e !=0)=true by simpa using k1,YS];exact fail e _ k1 k2
 ·rintro s ⟨tm,ls,al,now,cm,cr,b1,b2,b3,c,rfl,rfl⟩;have hq:=zeJ (t:=t) (inp:=inp) (op:=op) (rows:=rows) (rates:=rates) (r:=r) (next:=next) (lf:=zx left) (cur:=cur) (left:=left) b1 b2;simp only[b3,if_true] at hq;generalize hP:(⟨inp,r,op,⟨inp.p,rows,rates,next,zx left,tm,ls,al⟩,cur,zv op.b rows,now,cm,cr,(yV op ⟨inp.p,rows,rates,next,zx left,tm,ls,al⟩ cur.tax inp.up cm cr).lm,(yV op ⟨inp.p,rows,rates,next,zx left,tm,ls,al⟩ cur.tax inp.up cm cr).lr,(yV op ⟨inp.p,rows,rates,next,zx left,tm,ls,al⟩ cur.tax inp.up cm cr).am,(yV op ⟨inp.p,rows,rates,next,zx left,tm,ls,al⟩ cur.tax inp.up cm cr).de,(yV op ⟨inp.p,rows,rates,next,zx left,tm,ls,al⟩ cur.tax inp.up cm cr).tot⟩:Pro)=P at *;clear hP;have hE:=YY P;have hT:List.take 41 (zF P)=zF P:=zvA (by omega);have hz:YS.length=41:=rfl;have hS:setX YS 0 (zF P)=zF P:=ZX (by rw[hE,hz]);have hlE:=QA g.length P;have he2:=e0.trans (show _=(0,P,left) from hq);generalize hEE:zF P=E at *;simp[l150_0,hE,hT,hz,hS];subst hEE;exact Gh.pure (u':=zkC (0,P,left)) (.cons (.agg (.lts hlE)) (.cons (.s (by rw[zuO rfl];exact .lt (by simp))) (.cons .i .nil))) (hΨ _ _ ⟨by rw[he2],rfl⟩)
end
end Go.Proofs.YtdmcfjkgopmlgaaGreatDoor.Ev.CA

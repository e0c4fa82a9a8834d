import Derived.Test.YtdmcfjkgopmlgaaGreatDoorP6
set_option maxRecDepth 8000
set_option linter.unusedVariables false
set_option linter.unusedSimpArgs false
set_option linter.unusedSectionVars false
namespace Go.Proofs.YtdmcfjkgopmlgaaGreatDoor.Ev
open Go Ieee
theorem zno(way:Toward)(neg:Bool)(n:Nat):way.cut neg n 0=n:=by unfold Toward.cut;simp only[Nat.zero_min,Nat.shiftLeft_zero,Nat.div_one,Nat.mod_one];cases way<;>simp
theorem zlF(way:Toward)(neg:Bool)(n d:Nat)(h:n≠0):way.cut neg (n*2^d) d=n:=by
 unfold Toward.cut;have hl:(n*2^d).log2=n.log2+d:=by rw[Nat.log2_eq_iff (by have:=zwF d;exact zxw h (by omega))];have h1:=zx4 h;have h2:=zx5 (n:=n);rw[zwO,show n.log2+d+1=(n.log2+1)+d by omega,zwO];exact⟨zvu _ h1,zxd h2 (zwF d)⟩
 have hm:min d ((n*2^d).log2+2)=d:=by omega
 simp only[hm,Nat.one_shiftLeft,Nat.mul_div_cancel _ (zwF d),Nat.mul_mod_left];have:0<2^d:=zwF d;cases way<;>simp<;>omega
theorem zqO(n k:Nat)(h:n≠0):(n*2^k).log2=n.log2+k:=by rw[Nat.log2_eq_iff (by have:=zwF k;exact zxw h (by omega))];have h1:=zx4 h;have h2:=zx5 (n:=n);rw[zwO,show n.log2+k+1=(n.log2+1)+k by omega,zwO];exact⟨zvu _ h1,zxd h2 (zwF k)⟩
def rg(n:Nat):Nat:=if n=0 then 0 else(n.log2+1022)*2^52+n*2^(52-n.log2)
theorem zjj{n:Nat}(h0:n≠0)(h:n<2^53):n.log2≤52:=by have:=(Nat.log2_lt h0).2 h;omega
theorem zb6{n:Nat}(h0:n≠0)(h:n<2^53):2^52≤n*2^(52-n.log2)∧n*2^(52-n.log2)<2^53:=by
 have hl:=zjj h0 h;have h1:=zx4 h0;have h2:=zx5 (n:=n);have e:2^n.log2*2^(52-n.log2)=2^52:=by rw[←zwO];congr 1;omega
 have e2:2^(n.log2+1)*2^(52-n.log2)=2^53:=by rw[←zwO];congr 1;omega
 rw[←e,←e2];exact⟨zvu _ h1,zxd h2 (zwF _)⟩
theorem zdO{n:Nat}(h:n<2^53)(k:Nat):Format.nearest double false (n*2^k) (-(k:Int))=rg n:=by
 unfold Format.nearest rg;by_cases h0:n=0
 ·subst h0;simp[Format.word]
 ·have hl:=zjj h0 h;have hk:=zb6 h0 h;have hne:n*2^k≠0:=zxw h0 (by have:=zwF k;omega);rw[zuV hne,zuV h0,zqO n k h0];have hlp:double.leastPlace= -1074:=by decide
  have hfb:(double.fractionBits:Int)=52:=rfl;have hlast:max (-(k:Int)+((n.log2+k:Nat):Int)-double.fractionBits) (-1074)=(n.log2:Int)-52:=by rw[hfb];omega
  simp only[hlp,hlast];have hb:double.binade=2^52:=by decide
  have hi:double.infRung=2047*2^52:=by decide
  have hcut:Toward.even.cut false ((n*2^k)<<<(-(k:Int)-((n.log2:Int)-52)).toNat) ((n.log2:Int)-52- -(k:Int)).toNat=n*2^(52-n.log2):=by
   by_cases c:k≤52-n.log2
   ·have e1:(-(k:Int)-((n.log2:Int)-52)).toNat=52-n.log2-k:=by omega
    have e2:((n.log2:Int)-52- -(k:Int)).toNat=0:=by omega
    rw[e1,e2,zno,Nat.shiftLeft_eq,zxv,←zwO];congr 2;omega
   ·have e1:(-(k:Int)-((n.log2:Int)-52)).toNat=0:=by omega
    have e2:((n.log2:Int)-52- -(k:Int)).toNat=k-(52-n.log2):=by omega
    rw[e1,e2,Nat.shiftLeft_zero];have e3:n*2^k=n*2^(52-n.log2)*2^(k-(52-n.log2)):=by rw[zxv,←zwO];congr 2;omega
    rw[e3,zlF _ _ _ _ (by omega)]
  rw[hcut,hb,hi];have e4:((n.log2:Int)-52- -1074).toNat=n.log2+1022:=by omega
  have hw:∀r,double.word false r=r:=fun r=>zuV (by decide);rw[e4,hw,zvD]
  ·have h1:(n.log2+1022)*2^52≤1074*2^52:=zvu _ (by omega);exact zvB (Nat.add_le_add h1 (Nat.le_of_lt hk.2)) (by decide)
def fl(n:Nat):Nat:=FloatKind.f64.nearest (n:Int)
theorem zeO{n:Nat}(h:n<2^53):fl n=rg n:=by
 have:=zdO h 0;simp only[Nat.pow_zero,zxZ] at this;unfold fl FloatKind.nearest FloatKind.encode FloatKind.format Format.write;have e:decide ((n:Int)<0)=false:=by simp
 simp only[e,Int.natAbs_natCast];exact this
theorem zcJ{n:Nat}(h:n<2^53):∃m k:Nat,double.read (rg n)= .number false m (-(k:Int))∧m=n*2^k:=by
 have hb:double.binade=2^52:=by decide
 have hi:double.infRung=2047*2^52:=by decide
 have hs:double.signWeight=2^63:=by decide
 have hlp:double.leastPlace= -1074:=by decide
 unfold Format.read rg;rw[hs,hb,hi,hlp];by_cases h0:n=0
 ·subst h0;have key:∀k:Nat,(0:Nat)=0*2^k:=fun k=>(zv4 _).symm;exact⟨0,1074,by simp,key 1074⟩
 ·have hl:=zjj h0 h;have hk:=zb6 h0 h;rw[zuV h0];obtain⟨q,hq⟩:∃q,q=n*2^(52-n.log2):=⟨_,rfl⟩
  rw[←hq] at hk⊢;obtain⟨e,he⟩:∃e,e=n.log2:=⟨_,rfl⟩
  rw[←he] at hl hq⊢;have hlt:(e+1022)*2^52+q<2^63:=by omega
  have h1:((e+1022)*2^52+q)/2^63=0:=Nat.div_eq_of_lt hlt;have h2:((e+1022)*2^52+q)%2^63=(e+1022)*2^52+q:=zx6 hlt;simp only[h1,h2];rw[zuV (by omega),zuT (by omega)];have h3:((e+1022)*2^52+q)%2^52=q-2^52:=by omega
  have h4:((e+1022)*2^52+q)/2^52=e+1023:=by omega
  refine⟨q,52-e,?_,hq⟩;rw[h3,h4];have h5:2^52+(q-2^52)=q:=by omega
  rw[h5];have h6:(-1074+((e+1023-1:Nat):Int))= -((52-e:Nat):Int):=by omega
  rw[h6];rfl
theorem zfo(m k:Nat):signed false m k=((m*2^k:Nat):Int):=by unfold signed;simp[Nat.shiftLeft_eq]
theorem znD{n m:Nat}(h:n+m<2^53):FloatKind.f64.format.add (fl n) (fl m)=some (fl (n+m)):=by
 rw[zeO (n:=n) (by omega),zeO (n:=m) (by omega),zeO h];obtain⟨a,k,e1,rfl⟩:=zcJ (n:=n) (by omega);obtain⟨b,j,e2,rfl⟩:=zcJ (n:=m) (by omega);show Option.map double.write ((double.read (rg n)).sum (double.read (rg m)))=_;rw[e1,e2];unfold Datum.sum;simp only[zfo];obtain⟨t,ht⟩:∃t,t=max k j:=⟨_,rfl⟩
 have hbase:min (-(k:Int)) (-(j:Int))= -(t:Int):=by omega
 rw[hbase];have c1:(-(k:Int)- -(t:Int)).toNat=t-k:=by omega
 have c2:(-(j:Int)- -(t:Int)).toNat=t-j:=by omega
 rw[c1,c2];have d1:n*2^k*2^(t-k)=n*2^t:=by rw[zxv,←zwO];congr 2;omega
 have d2:m*2^j*2^(t-j)=m*2^t:=by rw[zxv,←zwO];congr 2;omega
 rw[d1,d2,←zwx,←zvI];have hneg:(if(((n+m)*2^t:Nat):Int)=0 then false&&false else decide ((((n+m)*2^t:Nat):Int)<0))=false:=by
  split
  ·rfl
  ·rw[zv7];omega
 rw[hneg,Int.natAbs_natCast];simp only[zvf,Format.write];rw[zdO h]
theorem znE{n m:Nat}(hn:n<2^53)(hm:m<2^53):(FloatKind.f64.format.order (fl n) (fl m)==some .eq)=decide (n=m):=by
 rw[zeO hn,zeO hm];obtain⟨a,k,e1,rfl⟩:=zcJ hn;obtain⟨b,j,e2,rfl⟩:=zcJ hm;show((double.read (rg n)).order (double.read (rg m))==some .eq)=_;rw[e1,e2];unfold Datum.order;simp only[zfo];obtain⟨t,ht⟩:∃t,t=max k j:=⟨_,rfl⟩
 have hbase:min (-(k:Int)) (-(j:Int))= -(t:Int):=by omega
 rw[hbase];have c1:(-(k:Int)- -(t:Int)).toNat=t-k:=by omega
 have c2:(-(j:Int)- -(t:Int)).toNat=t-j:=by omega
 rw[c1,c2];have d1:n*2^k*2^(t-k)=n*2^t:=by rw[zxv,←zwO];congr 2;omega
 have d2:m*2^j*2^(t-j)=m*2^t:=by rw[zxv,←zwO];congr 2;omega
 rw[d1,d2];by_cases e:n=m
 ·subst e;rw[zv6 rfl];simp[compare,compareOfLessAndEq]
 ·rw[zv7 e];have hne:((n*2^t:Nat):Int)≠((m*2^t:Nat):Int):=by
   intro he;exact e (Nat.eq_of_mul_eq_mul_right (zwF t) (by omega))
  simp only[compare,compareOfLessAndEq];split
  ·rfl
  ·first
    |rfl
    |(rw[zuV hne];rfl)
theorem zcy:fl 0=0:=by rw[zeO (by omega)];rfl
abbrev cx(d c:Nat):SV:= .cpl .f64 (fl d) (fl c)
theorem zqh{a b c d:Nat}(h1:a+c<9007199254740992)(h2:b+d<9007199254740992):zbY .add (fl a) (fl b) (fl c) (fl d)=some (cx (a+c) (b+d)):=by unfold zbY;rw[znD h1,znD h2]
theorem zqv{a b:Nat}(h1:a<9007199254740992)(h2:b<9007199254740992):zb1 .eql (fl a) (fl b)=some (.bool (decide (a=b))):=by unfold zb1;rw[znE h1 h2]
end Go.Proofs.YtdmcfjkgopmlgaaGreatDoor.Ev
namespace Go.Proofs.YtdmcfjkgopmlgaaGreatDoor.Ev.CA
open Go
section
attribute [-simp] List.length_flatMap getElem?_pos
def ziM:List ByteArray:=[⟨#[]⟩,⟨#[99,117,114,114,101,110,116]⟩,⟨#[112,97,121,97,98,108,101]⟩,⟨#[100,101,102,101,114,114,101,100]⟩,⟨#[116,101,109,112]⟩,⟨#[108,111,115,115,101,115]⟩,⟨#[97,108,108,111,119,97,110,99,101]⟩,⟨#[116,114,117,101,117,112]⟩]
abbrev zeo(s:ByteArray):List XV:=[xs s]
theorem zhg(s:ByteArray):(zeo s).length=1:=rfl
@[simp] theorem encS_lvs(m:Nat)(l:List ByteArray):zr m (l.flatMap zeo):=zQ (fun a=>by simp[zeo]) l
theorem zc1{g:XH}:Cl C (fun _=>False) 174 [] g fun u g'=>u= .s (.lst 9 1 8 (ziM.flatMap zeo))∧g'=g:=by refine Cl.ip rfl (zuJ rfl) fun Ψ hΨ=> ?_;simp[rep];exact Gh.pure (u':= .s (.lst 9 1 8 (ziM.flatMap zeo))) (.s (.fl (l:=ziM) (t:=9) zhg (fun m a=>by simp[zeo]) (zuQ _) (by simp[ziM,zeo]))) (hΨ _ _ ⟨rfl,rfl⟩)
def Yf(n:Int):Bool:=decide (1≤n∧n≤7)
theorem zkm(n:Int):Pure C 175 [fi n] (fb (Yf n)):=by
 refine Pure.intro0 (e:=e175) rfl (zuJ rfl) (by simp) fun g Ψ h0 hJ=> ?_;simp
 repeat' first|(refine zc (fun hc=> ?_) (fun hc=> ?_)<;>try simp)
 all_goals(simp at *;exact q6 h0 (by simp[Yf, *]<;>omega))
def ze0(a:Int):ByteArray:=if 1≤a∧a≤7 then ziM.getD a.toNat ⟨#[]⟩ else⟨#[]⟩
theorem zoa(a:Int):(ze0 a).size=0↔¬(1≤a∧a≤7):=by
 unfold ze0;split
 ·rename_i h;have:a=1∨a=2∨a=3∨a=4∨a=5∨a=6∨a=7:=by omega
  rcases this with rfl|rfl|rfl|rfl|rfl|rfl|rfl<;>simp[ziM]<;>decide
 ·rename_i h;exact⟨fun _=>h,fun _=>rfl⟩
theorem zly{g:XH}(a:Int):Cl C (fun _=>False) 350 [fi a] g fun u g'=>u=fs (ze0 a)∧g'=g:=by
 refine Cl.ip rfl (zuJ rfl) fun Ψ hΨ=> ?_;simp;refine zb.pure (zkm ..) ?_;simp;refine zc (fun h=> ?_) (fun h=> ?_)
 ·simp[Yf] at h;simp;refine zb.go0 zc1 ?_;have:a=1∨a=2∨a=3∨a=4∨a=5∨a=6∨a=7:=by omega
  rcases this with rfl|rfl|rfl|rfl|rfl|rfl|rfl<;>simp[ziM,zeo]<;>exact Gh.here (hΨ _ _ ⟨rfl,rfl⟩)
 ·simp[Yf] at h;simp;exact Gh.here (hΨ _ _ ⟨by simp[ze0,show¬(1≤a∧a≤7) by omega],rfl⟩)
def zam(k:Nat):List Int:=((List.range k).filter fun j=>decide (1≤j)).map fun(j:Nat)=>(j:Int)
theorem zlr(k:Nat):zam (k+1)=if 1≤k then zam k++[(k:Int)] else zam k:=by
 unfold zam;rw[zx8,zwG,zvs];split
 ·rename_i h;simp[h]
 ·rename_i h;simp[h]
theorem zm2(k:Nat):(zam k).length≤k:=by unfold zam;have:=zwd (fun j=>decide (1≤j)) (List.range k);simp at this⊢;omega
def zls:List Int:=[1,2,3,4,5,6,7]
theorem zel{g:XH}:Cl C (fun _=>False) 102 [] g fun u g'=>u= .s (Yv zls)∧g'=g:=by
 refine Cl.ip rfl (zuJ rfl) fun Ψ hΨ=> ?_;simp;refine zb.go0 zc1 ?_;simp;refine Lp.genG 3 1 (σ:=Nat) 8 (fun k w=>[(1,.s (.sl g.length w 0 (zam k).length)),(5,fi k)]) (fun k w=>g++[.own w 3 1 ((zam k).flatMap zR)]) (fun _ _=>True) 0 (by decide) rfl (by simp[GhF,zam]) (by simp[zam]) trivial ?_ ?_
 ·rintro q hq w _ hlt N hN;have hl:=zm2 q;have hfl:((zam q).flatMap zR).length=(zam q).length:=by rw[zf zG];omega
  rw[zlr] at hN;generalize zam q=A at *;simp[l102_0,show(q:Int)<8 by omega];refine zb.pure (zkm ..) ?_;simp;by_cases h1:1≤q
  ·rw[zuT h1] at hN;simp[show Yf q=true by simp[Yf];omega,hfl,show(A.length+1)*8≤140737488355328 by omega,yB hq (by omega)];exact y7 (fun fr g'=>hN (w+1) fr g' trivial) (by simp) (by simp) (by simp) (by simp[lvO])
  ·rw[zuV h1] at hN;simp[show Yf q=false by simp[Yf];omega,yB hq (by omega)];exact y7 (fun fr g'=>hN w fr g' trivial) rfl (by simp) (by simp) (by simp[lvO])
 ·rintro w _;have e:zam 8=zls:=by decide
  rw[e];simp[l102_0];exact Gh.pure (.s (.fl (t:=3) zG (fun m a=>by simp[zR]) (zuQ _) (by simp))) (hΨ _ _ ⟨rfl,rfl⟩)
def ofC(n:Int):Nat×Nat:=if za n then(if n >0 then(n.toNat,0) else(0,(-n).toNat)) else(0,0)
theorem ze5(n:Int):(ofC n).1≤100000000000∧(ofC n).2≤100000000000:=by
 unfold ofC;split
 ·rename_i h;simp[za] at h;split<;>simp<;>omega
 ·simp
theorem ze1{n:Int}(h:0≤n):FloatKind.f64.nearest n=fl n.toNat:=by unfold fl;rw[zxL h]
abbrev xc(p:Nat×Nat):XV:= .v (cx p.1 p.2)
theorem zrs(n:Int):Pure C 351 [fi n] (.s (xc (ofC n))):=by
 refine Pure.intro0 (e:=e351) rfl (zuJ rfl) (by simp[cx]) fun g Ψ h0 hJ=> ?_;simp;refine zb.pure (z8 ..) ?_;simp;refine zc (fun k1=> ?_) (fun k1=> ?_)
 ·simp;refine zc (fun k2=> ?_) (fun k2=> ?_)
  ·simp at k2;simp;exact q6 h0 (by simp[ofC,k1,k2,ze1 (n:=n) (by omega),cx,zcy])
  ·simp at k2;have w:IntKind.i64.wrap (-n)= -n:=by
    simp[za] at k1;exact ze (by omega) (by omega)
   simp[w];exact q6 h0 (by simp[ofC,k1,show¬0<n by omega,ze1 (n:= -n) (by omega),cx,zcy])
 ·simp;exact q6 h0 (by simp[ofC,k1,cx,zcy])
def jy(x:Li):List XV:=[xi x.a,xi x.n]
theorem yW(x:Li):(jy x).length=2:=rfl
@[simp] theorem zcw(x:Li)(m:Nat):zr m (jy x):=by simp[jy]
@[simp] theorem znu(m:Nat)(l:List Li):zr m (l.flatMap jy):=zQ (fun a=>zcw a m) l
abbrev zjk(l:List Li):XV:= .lst 189 2 l.length (l.flatMap jy)
abbrev encC(p:Nat×Nat):List XV:=[xc p]
theorem zdd(p:Nat×Nat):(encC p).length=1:=rfl
@[simp] theorem znr(m:Nat)(l:List (Nat×Nat)):zr m (l.flatMap encC):=zQ (fun a=>by simp[encC]) l
def s1C(l:List (Nat×Nat)):Nat:=(l.map (·.1)).sum
def s2C(l:List (Nat×Nat)):Nat:=(l.map (·.2)).sum
theorem zrq(l:List (Nat×Nat))(k:Nat)(hk:k<l.length):s1C (l.take (k+1))=s1C (l.take k)+l[k].1∧s2C (l.take (k+1))=s2C (l.take k)+l[k].2:=by unfold s1C s2C;rw[zu3 hk,zvs,zvs,zwZ,zwZ];exact⟨rfl,rfl⟩
theorem zoI:∀(l:List (Nat×Nat)),(∀p∈l,p.1≤100000000000∧p.2≤100000000000)→s1C l≤100000000000*l.length∧s2C l≤100000000000*l.length
 |[],_=>by simp[s1C,s2C]
 |p::l,h=>by have h1:=zoI l fun q hq=>h q (by simp[hq]);have h2:=h p (by simp);simp only[s1C,s2C,zu7,zwu,zvA] at h1⊢;omega
theorem zoM{g:XH}{v:XV}{l:List (Nat×Nat)}(hr:RdX g 379 1 encC v l)(hl:l.length≤1000)(hb:∀p∈l,p.1≤100000000000∧p.2≤100000000000):Cl C (fun _=>False) 352 [.s v] g fun u g'=>u= .s (xc (s1C l,s2C l))∧g'=g:=by
 refine Cl.ip rfl (zuJ rfl) fun Ψ hΨ=> ?_;simp[hr.len];refine Lp.genU (σ:=Unit) l.length (fun k _=>[(3,.s (xc (s1C (l.take k),s2C (l.take k)))),(8,fi k)]) (fun _ _=>g) (fun _ _=>True) () (by decide) rfl (by simp[s1C,s2C,cx,zcy]) rfl trivial ?_ ?_
 ·rintro q hq _ _ hlt N hN;obtain⟨p1,cs,o1,b1,b2,b3,b4⟩:=hr.at1 zdd hq;obtain⟨e1,e2⟩:=zrq l q hq;have h1:=zoI (l.take q) fun p hp=>hb p (zvW hp);have h2:=hb _ (zvi hq);rw[zu6,zvD (by omega)] at h1;have ha:=zqh (a:=s1C (l.take q)) (b:=s2C (l.take q)) (c:=l[q].1) (d:=l[q].2) (by omega) (by omega);rw[←e1,←e2] at ha;simp[l352_0,hq,b1,b2,b3,b4,encC,cx,ha,yB hq (by omega)];exact qG () hN trivial (by simp[cx]) (by simpa using hlt)
 ·rintro _ _;rw[zvd];simp[l352_0];exact Gh.here (hΨ _ _ ⟨rfl,rfl⟩)
theorem zmw{a b:Nat}(ha:a≤4000000000000000)(hb:b≤4000000000000000):Pure C 330 [.s (xc (a,b))] (fb (decide (a=b))):=by refine Pure.intro0 (e:=e330) rfl (zuJ rfl) (by simp) fun g Ψ h0 hJ=> ?_;have h:=zqv (a:=a) (b:=b) (by omega) (by omega);simp[cx,h];exact h0
theorem zgh{g:XH}{v:XV}{l:List Li}(hr:RdX g 189 2 jy v l)(hl:l.length≤1000):Cl C (fun _=>False) 331 [.s v] g fun u g'=>u= .s (xc (s1C (l.map fun x=>ofC x.n),s2C (l.map fun x=>ofC x.n)))∧g'=g:=by
 refine Cl.ip rfl (zuJ rfl) fun Ψ hΨ=> ?_;simp[hr.len];refine Lp.genG 379 1 (σ:=Nat) l.length (fun k w=>[(3,.s (.sl g.length w 0 k)),(8,fi k)]) (fun k w=>g++[.own w 379 1 (((l.take k).map fun x=>ofC x.n).flatMap encC)]) (fun _ _=>True) 0 (by decide) rfl (by simp[GhF]) (by simp) trivial ?_ ?_
 ·rintro q hq w _ hlt N hN;obtain⟨p1,cs,o1,b1,b2,b3,b4,b5,_⟩:=hr.atJ yW (by decide) hq;have e1:(l.take (q+1)).map (fun x=>ofC x.n)=(l.take q).map (fun x=>ofC x.n)++[ofC l[q].n]:=by rw[zu3 hq,zvs];rfl
  have hfl:(((l.take q).map fun x=>ofC x.n).flatMap encC).length=q:=by rw[zf zdd];simp;omega
  have hlF:∀m,zr m (((l.take q).map fun x=>ofC x.n).flatMap encC):=fun m=>znr m _;rw[e1,zvq] at hN;generalize((l.take q).map fun x=>ofC x.n).flatMap encC=F at *;simp[l331_0,hq,b3,b4,b5,jy];refine zb.pure (zrs ..) ?_;simp[hfl,show(q+1)*16≤140737488355328 by omega,yB hq (by omega)];exact y7 (fun fr g'=>hN (w+1) fr g' trivial) (by simp[encC]) (by simp) (by simpa using hlt) (by simp[lvO,hlF,encC,cx])
 ·rintro w _;rw[zvd];simp[l331_0];have hs:=RdX.sl (g:=g++[.own w 379 1 ((l.map fun x=>ofC x.n).flatMap encC)]) (i:=g.length) (w:=w) (t:=379) zdd (l:=l.map fun x=>ofC x.n) (by simp);rw[zvc] at hs;refine zb.go0 (zoM hs (by simp;omega) fun p hp=>by
   obtain⟨x,_,rfl⟩:=zvZ.1 hp;exact ze5 _) ?_
  simp;exact Gh.pure (.s (.lt (by simp[cx]))) (hΨ _ _ ⟨rfl,rfl⟩)
def zgF(x:Li):Bool:=Yf x.a&&(x.n !=0&&za x.n)
theorem zl6(x:Li){g:XH}:Cl C (fun _=>False) 329 [.agg (jy x)] g fun u g'=>u=fb (zgF x)∧g'=g:=by
 refine Cl.ip rfl (zuJ rfl) fun Ψ hΨ=> ?_;simp[jy];refine zb.go0 (zly x.a) ?_;have h1:=zoa x.a;have hn:(ze0 x.a).toList.isEmpty= !Yf x.a:=by
  rw[ye];by_cases hs:(ze0 x.a).size=0
  ·have:=h1.1 hs;rw[zv6 hs];simp[Yf];omega
  ·have:1≤x.a∧x.a≤7:=Classical.byContradiction fun h=>hs (h1.2 h);rw[zv7 hs];simp[Yf,this]
 simp[hn]
 repeat' first|(refine zc (fun hc=> ?_) (fun hc=> ?_)<;>try simp)|(refine zb.pure (z8 ..) ?_;try simp)
 all_goals(refine Gh.pure .b (hΨ _ _ ⟨?_,rfl⟩);simp[zgF, *])
 all_goals(simp at *;simp[*])
theorem qt:∀(l:List Li) (a:Int),jA a l=true→∀x∈l,za x.n=true
 |[],_,_,x,hx=>by simp at hx
 |y::l,a,h,x,hx=>by
  simp only[jA,zuS] at h;rcases zu4.1 hx with rfl|hx
  ·exact h.1.2.2
  ·exact qt l _ h.2 x hx
theorem zok{n:Int}(h:za n=true):((ofC n).1:Int)-(ofC n).2=n:=by unfold ofC;rw[zuT h];split<;>simp<;>omega
theorem zk7:∀(l:List Li),(∀x∈l,za x.n=true)→((s1C (l.map fun x=>ofC x.n):Nat):Int)-(s2C (l.map fun x=>ofC x.n):Nat)=(l.map (·.n)).sum
 |[],_=>by simp[s1C,s2C]
 |x::l,h=>by have h1:=zk7 l fun y hy=>h y (by simp[hy]);have h2:=zok (h x (by simp));simp only[s1C,s2C,zu7,zwu] at h1⊢;omega
theorem zaO{g:XH}{v:XV}{l:List Li}(hr:RdX g 189 2 jy v l)(hl:l.length≤1000):Cl C (fun _=>False) 293 [.s v] g fun u g'=>u=fi (if yo l then 0 else 2)∧g'=g:=by
 refine Cl.ip rfl (zuJ rfl) fun Ψ hΨ=> ?_;simp[hr.len];refine zc (fun h1=> ?_) (fun h1=> ?_)
 ·simp at h1⊢;exact Gh.here (hΨ _ _ ⟨by simp[yo,show¬l.length≤20 by omega],rfl⟩)
 simp at h1;simp[hr.len];have bad:∀J,jA 0 l=false→Gh (fun _=>False) g Ψ (fi 2) (g++J):=fun J h=>Gh.pure .i (hΨ _ _ ⟨by simp[yo,h],rfl⟩);refine Lp.genU (σ:=Int) l.length (fun k s=>[(3,fi s),(11,fi k)]) (fun _ _=>g) (fun k s=>0≤s∧jA 0 l=jA s (l.drop k)) 0 (by decide) rfl (by simp) rfl (by simp) ?_ ?_
 ·rintro q hq s ⟨hs,hP⟩ hlt N hN;obtain⟨p1,cs,o1,b1,b2,b3,b4,b5,_⟩:=hr.atJ yW (by decide) hq;rw[zvt hq,jA] at hP;have hlr:=fun g=>zl6 (g:=g) l[q];simp[jy] at hlr;simp[l293_0,hq,b1,b2,b4,b5,jy];refine zb.go0 (hlr _) ?_;simp;refine zc (fun k1=> ?_) (fun k1=> ?_)
  rotate_left
  ·simp;refine bad _ (by rw[hP];simp[zgF,Yf] at k1⊢;intro a b;by_cases h:1≤l[q].a∧l[q].a≤7<;>simp_all<;>omega)
  simp;refine zc (fun k2=> ?_) (fun k2=> ?_)
  ·simp at k2⊢;refine bad _ (by rw[hP];simp;omega)
  simp at k2;simp[yB hq (by omega)];refine Qb l[q].a hN ⟨by omega,?_⟩ (by simp) (by simpa using hlt);rw[hP];simp[zgF,Yf] at k1;simp[k1,k2]
 ·rintro s ⟨hs,hP⟩;rw[zx2] at hP;have hall:jA 0 l=true:=hP;have hm:=qt l 0 hall;have hd:=zk7 l hm;have hb:=zoI (l.map fun x=>ofC x.n) fun p hp=>by
   obtain⟨x,_,rfl⟩:=zvZ.1 hp;exact ze5 _
  rw[zvc] at hb;have hsum:yo l=decide (s1C (l.map fun x=>ofC x.n)=s2C (l.map fun x=>ofC x.n)):=by
   unfold yo;rw[hall,zv6 (show l.length≤20 by omega),zxK,zxK,←hd];by_cases h:s1C (l.map fun x=>ofC x.n)=s2C (l.map fun x=>ofC x.n)
   ·rw[zv6 h,h];simp
   ·rw[zv7 h];simp;omega
  have hS:=zgh hr hl;simp[l293_0];refine zb.go0 hS ?_;clear hS;have hb1:s1C (l.map fun x=>ofC x.n)≤4000000000000000:=by omega
  have hb2:s2C (l.map fun x=>ofC x.n)≤4000000000000000:=by omega
  generalize s1C (l.map fun x=>ofC x.n)=d at *;generalize s2C (l.map fun x=>ofC x.n)=c at *;have hE:=zmw hb1 hb2;rw[hsum] at hΨ;simp;refine zb.pure hE ?_;simp;refine zc (fun k1=> ?_) (fun k1=> ?_)
  ·simp;exact Gh.here (hΨ _ _ ⟨by rw[k1];rfl,rfl⟩)
  ·simp;exact Gh.here (hΨ _ _ ⟨by rw[k1];rfl,rfl⟩)
theorem fewP(x:Li)(g:XH):Cl C (fun _=>False) 302 [.agg (jy x)] g fun u g'=>u=fb (!za x.n)∧g'=g:=by refine Cl.ip rfl (zuJ rfl) fun Ψ hΨ=> ?_;simp[jy];refine zb.pure (z8 ..) ?_;simp;exact Gh.pure (.s (.lt (by simp))) (hΨ _ _ ⟨rfl,rfl⟩)
def zaD(l:List Li):Bool:=decide (l.length≤40)&& !(l.any fun x=> !za x.n)
theorem znB{l:List Li}(h:zaD l=true):l.length≤40∧∀x∈l,za x.n=true:=by simp[zaD] at h;exact h
theorem zdA{g:XH}{v:XV}{l:List Li}(hr:RdX g 189 2 jy v l)(hl:l.length≤100000):Cl C (fun _=>False) 240 [.s v] g fun u g'=>u=fb (zaD l)∧g'=g:=by
 refine Cl.ip rfl (zuJ rfl) fun Ψ hΨ=> ?_;simp[hr.len];refine zc (fun h1=> ?_) (fun h1=> ?_)
 ·simp at h1;simp;refine zb.go0 (Qv (f:=301) (fi':=333) (q:=fun x=> !za x.n) rfl rfl yW (by decide) hr (by omega) (.inl ⟨_,rfl,fun x _=>fewP x _⟩)) ?_;simp;exact Gh.here (hΨ _ _ ⟨by simp[zaD,show l.length≤40 by omega],rfl⟩)
 ·simp at h1;simp;exact Gh.here (hΨ _ _ ⟨by simp[zaD,show¬l.length≤40 by omega],rfl⟩)
theorem zmz(a:Int)(l:List Li){k:Nat}(hk:k<l.length):jb (l.take (k+1)) a=if l[k].a=a then jb (l.take k) a+l[k].n else jb (l.take k) a:=by
 unfold jb;rw[zu3 hk,zwG,zvs,zwZ];split
 ·rename_i h;simp[h]
 ·rename_i h;simp[h]
theorem zgP(a:Int):∀(l:List Li),(∀x∈l,za x.n=true)→-(100000000000*(l.length:Int))≤jb l a∧jb l a≤100000000000*(l.length:Int)
 |[],_=>by simp[jb]
 |x::l,h=>by
  have h1:=zgP a l fun y hy=>h y (by simp[hy]);have h2:=h x (by simp);simp only[za,zuZ] at h2;unfold jb at h1⊢;by_cases hx:x.a=a
  ·rw[List.filter_cons_of_pos (by simp[hx])];simp only[zu7,zwu,zvA,zwx,zw9];omega
  ·rw[List.filter_cons_of_neg (by simp[hx])];simp only[zvA,zwx,zw9];omega
theorem zdB{g:XH}{v:XV}{l:List Li}(hr:RdX g 189 2 jy v l)(hf:zaD l=true)(a:Int):Cl C (fun _=>False) 241 [.s v,fi a] g fun u g'=>u=fi (jb l a)∧g'=g:=by
 obtain⟨hl,hm⟩:=znB hf;refine Cl.ip rfl (zuJ rfl) fun Ψ hΨ=> ?_;simp[hr.len];refine Lp.genU (σ:=Unit) l.length (fun k _=>[(5,fi (jb (l.take k) a)),(10,fi k)]) (fun _ _=>g) (fun k s=>True) () (by decide) rfl (by simp[jb]) rfl trivial ?_ ?_
 ·rintro q hq _ _ hlt N hN;obtain⟨p1,cs,o1,b1,b2,b3,b4,b5,_⟩:=hr.atJ yW (by decide) hq;have hb:=zgP a (l.take q) fun x hx=>hm x (zvW hx);rw[zu6,zvD (by omega)] at hb;have hx:=hm _ (zvi hq);have hs:=zmz a l hq;simp[l241_0,hq,b1,b2,b4,b5,jy];refine zc (fun k1=> ?_) (fun k1=> ?_)
  ·simp at k1;rw[zuT k1] at hs;have hw:IntKind.i64.wrap (jb (l.take q) a+l[q].n)=jb (l.take (q+1)) a:=by
    simp[za] at hx;rw[hs];exact ze (by omega) (by omega)
   simp[hw,yB hq (by omega)];exact Qb () hN trivial (by simp) (by simpa using hlt)
  ·simp at k1;rw[zuV k1] at hs;simp[yB hq (by omega)];exact Qb () hN trivial (by simp[hs]) (by simpa using hlt)
 ·rintro _ _;rw[zvd];simp[l241_0];exact Gh.here (hΨ _ _ ⟨rfl,rfl⟩)
theorem zji{g:XH}{v:XV}{l:List Li}(hr:RdX g 189 2 jy v l)(hl:l.length≤100000)(a:Int):Cl C (fun _=>False) 176 [.s v,fi a] g fun u g'=>u=fi (if zaD l then jb l a else 0)∧g'=g:=by
 refine Cl.ip rfl (zuJ rfl) fun Ψ hΨ=> ?_;simp;refine zb.go0 (zdA hr hl) ?_;simp;refine zc (fun k1=> ?_) (fun k1=> ?_)
 ·simp;refine zb.go0 (zdB hr k1 a) ?_;simp;exact Gh.here (hΨ _ _ ⟨by simp[k1],rfl⟩)
 ·simp;exact Gh.here (hΨ _ _ ⟨by simp[k1],rfl⟩)
def Za(l:List Li)(k:Nat):List Li:=((List.range k).map fun(j:Nat)=>(⟨(j:Int)+1,jb l ((j:Int)+1)⟩:Li)).filter fun x=>x.n !=0
theorem zhM(l:List Li)(k:Nat):Za l (k+1)=if jb l ((k:Int)+1)=0 then Za l k else Za l k++[⟨(k:Int)+1,jb l ((k:Int)+1)⟩]:=by
 unfold Za;rw[zx8,zvs,zwG];split
 ·rename_i h;simp[h]
 ·rename_i h;simp[h]
theorem zjs(l:List Li)(k:Nat):(Za l k).length≤k:=by unfold Za;have:=zwd (fun x:Li=>x.n !=0) ((List.range k).map fun(j:Nat)=>(⟨(j:Int)+1,jb l ((j:Int)+1)⟩:Li));rw[zvc,zxX] at this;exact this
theorem zgg{g:XH}{v:XV}{l:List Li}(hr:RdX g 189 2 jy v l)(hl:l.length≤100000):Cl C (fun _=>False) 228 [.s v] g fun u g'=>u= .s (zjk (if zaD l then j7 l else[]))∧g'=g:=by
 refine Cl.ip rfl (zuJ rfl) fun Ψ hΨ=> ?_;simp;refine zb.go0 (zdA hr hl) ?_;simp;refine zc (fun k1=> ?_) (fun k1=> ?_)
 rotate_left
 ·simp;exact Gh.pure0 (u':= .s (.lst 189 2 0 [])) (.s .nil) (hΨ _ _ ⟨by simp[k1],rfl⟩)
 simp;refine zb.go0 zel ?_;have ha:zls.length=7:=rfl;have haq:∀(q:Nat) (h:q<zls.length),zls[q]=(q:Int)+1:=by decide
 simp[ha];refine Lp.genG 189 2 (σ:=Nat) 7 (fun k w=>[(3,.s (.sl g.length w 0 (Za l k).length)),(12,fi k)]) (fun k w=>g++[.own w 189 2 ((Za l k).flatMap jy)]) (fun _ _=>True) 0 (by decide) rfl (by simp[GhF,Za]) (by simp[Za]) trivial ?_ ?_
 ·rintro q hq w _ hlt N hN;have hml:=zjs l q;have hfl:((Za l q).flatMap jy).length=(Za l q).length*2:=zf yW _;rw[zhM] at hN;have hqa:q<zls.length:=by rw[ha];exact hq
  have e:=zaF hqa;rw[haq q hqa] at e;have e2:=haq q hqa;generalize Za l q=M at *;simp[l228_0,show(q:Int)<7 by omega,hq,hqa,e];refine zb.go0 (zdB hr.app k1 ((q:Int)+1)) ?_;simp;refine zc (fun k2=> ?_) (fun k2=> ?_)
  ·simp at k2;rw[zuV k2] at hN;simp[hfl,show(M.length+1)*16≤140737488355328 by omega,yB hq (by omega)];exact y7 (fun fr g'=>hN (w+1) fr g' trivial) (by simp[jy]) (by simp) (by simpa using hlt) (by simp[lvO])
  ·simp at k2;rw[zuT k2] at hN;simp[yB hq (by omega)];exact y7 (fun fr g'=>hN w fr g' trivial) rfl (by simp) (by simpa using hlt) (by simp[lvO])
 ·rintro w _;simp[l228_0];exact Gh.pure (.s (.fl (t:=189) yW (fun m a=>zcw a m) (zuQ _) (by simp))) (hΨ _ _ ⟨by rw[zuT k1];rfl,rfl⟩)
def yc(l:List Li):List Li:=l.map fun x=>⟨x.a,wr (-x.n)⟩
theorem J3{g:XH}{v:XV}{l:List Li}(hr:RdX g 189 2 jy v l)(hl:l.length≤100000):Cl C (fun _=>False) 156 [.s v] g fun u g'=>u= .s (zjk (yc l))∧g'=g:=by
 refine Cl.ip rfl (zuJ rfl) fun Ψ hΨ=> ?_;simp[hr.len];refine Lp.genG 189 2 (σ:=Nat) l.length (fun k w=>[(3,.s (.sl g.length w 0 k)),(8,fi k)]) (fun k w=>g++[.own w 189 2 ((yc (l.take k)).flatMap jy)]) (fun _ _=>True) 0 (by decide) rfl (by simp[GhF]) (by simp[yc]) trivial ?_ ?_
 ·rintro q hq w _ hlt N hN;obtain⟨p1,cs,o1,b1,b2,b3,b4,b5,_⟩:=hr.atJ yW (by decide) hq;have e1:yc (l.take (q+1))=yc (l.take q)++[⟨l[q].a,wr (-l[q].n)⟩]:=by unfold yc;rw[zu3 hq,zvs];rfl
  have hfl:((yc (l.take q)).flatMap jy).length=q*2:=by rw[zf yW];simp[yc];omega
  have hlF:∀m,zr m ((yc (l.take q)).flatMap jy):=fun m=>znu m _;rw[e1,zvq] at hN;generalize(yc (l.take q)).flatMap jy=F at *;simp[l156_0,hq,b3,b4,b5,jy,hfl,show(q+1)*16≤140737488355328 by omega,yB hq (by omega)];exact y7 (fun fr g'=>hN (w+1) fr g' trivial) (by simp[jy]) (by simp) (by simpa using hlt) (by simp[lvO,hlF,jy])
 ·rintro w _;rw[zvd];have hrl:(yc l).length=l.length:=by simp[yc]
  rw[←hrl];simp[l156_0];exact Gh.pure (.s (.fl (t:=189) yW (fun m a=>zcw a m) (zuQ _) (by simp))) (hΨ _ _ ⟨rfl,rfl⟩)
def Jc(p:Pro):List Li:=[⟨1,p.cur.tax⟩,⟨7,p.inp.up⟩,⟨2,wr (wr (-p.cur.tax)-p.inp.up)⟩,⟨3,p.deferred⟩,⟨4,wr (p.cl.temp-p.op.temp)⟩,⟨5,wr (p.cl.loss-p.op.loss)⟩,⟨6,wr (p.cl.allow-p.op.allow)⟩]
def j6(p:Pro):List Li:=if zaD (Jc p) then j7 (Jc p) else[]
theorem zaY{g:XH}(p:Pro):Cl C (fun _=>False) 153 [.agg (zC p)] g fun u g'=>u= .s (zjk (j6 p))∧g'=g:=by refine Cl.ip rfl (zuJ rfl) fun Ψ hΨ=> ?_;simp[zC,pC,zP,zi,zD];refine zy 7 [1] (fun _=>False) (by decide) (by decide) ?_;simp only[zu8,zvE,zvj,zve];simp;have hq:=fun(G:XH) (i:Nat) (h:G[i]? =some (.own 0 189 2 ((Jc p).flatMap jy)))=>zgg (g:=G) (RdX.sl yW h) (by simp[Jc]);refine zb.go0 (hq _ (g.length+3) (by simp[Jc,jy])) ?_;simp;exact Gh.pure (.s (.lt (by simp))) (hΨ _ _ ⟨rfl,rfl⟩)
def y6(x:It):List XV:=[xi x.k,xi x.n]
theorem yh(x:It):(y6 x).length=2:=rfl
@[simp] theorem zcx(x:It)(m:Nat):zr m (y6 x):=by simp[y6]
@[simp] theorem znw(m:Nat)(l:List It):zr m (l.flatMap y6):=zQ (fun a=>zcx a m) l
abbrev zaP(l:List It):XV:= .lst 43 2 l.length (l.flatMap y6)
def zgR(l:List It):Int:=l.foldl (fun n x=>wr (n+x.n)) 0
theorem zif{g:XH}{v:XV}{l:List It}(hr:RdX g 43 2 y6 v l)(hl:l.length≤1000):Cl C (fun _=>False) 37 [.s v] g fun u g'=>u=fi (zgR l)∧g'=g:=by
 refine Cl.ip rfl (zuJ rfl) fun Ψ hΨ=> ?_;simp[hr.len];refine Lp.foldU l (fun k (s:Int)=>[(3,fi s),(8,fi k)]) (fun _ _=>g) (fun n x=>wr (n+x.n)) 0 (by decide) rfl (by simp) rfl ?_ ?_
 ·rintro q hq s hs hlt N hN;obtain⟨p1,cs,o1,b1,b2,b3,b4,b5,_⟩:=hr.atJ yh (by decide) hq;simp[l37_0,hq,b1,b2,b4,b5,y6,yB hq (by omega)];exact Jg hN (by simp) (by simpa using hlt)
 ·rintro s rfl;simp[l37_0];exact Gh.here (hΨ _ _ ⟨rfl,rfl⟩)
theorem zc7(r:Int):∀(l:List Wa) (s:List Int) (k:Nat) (h1:k<l.length) (h2:k<s.length),jL r (l.take (k+1)) (s.take (k+1))=jL r (l.take k) (s.take k)+(zg l[k].m s[k]-zg l[k].m r)
 |[],_,k,h1,_=>by simp at h1
 |_::_,[],k,_,h2=>by simp at h2
 |b::l,x::s,0,_,_=>by simp[jL]
 |b::l,x::s,k+1,h1,h2=>by simp only[zu8,jL,zwj];rw[zc7 r l s k (by simpa using h1) (by simpa using h2)];omega
theorem zc6(r:Int):∀(l:List Wa) (s:List Int),-(8000000000002*(l.length:Int))≤jL r l s∧jL r l s≤8000000000002*(l.length:Int)
 |[],_=>by simp[jL]
 |b::l,[]=>by simp[jL];omega
 |b::l,x::s=>by have h1:=zc6 r l s;have h2:=zF b.m x;have h3:=zF b.m r;simp only[jL,zvA,zwx,zw9];omega
structure ProL(p:Pro):Prop where
 rows:p.rows.length≤800
 now:p.rows.length=p.now.length
 vec:p.cur.vec.length≤400
 op:BalL p.op
 cl:BalL p.cl
def zgC(p:Pro):Int:=(zg (wr (p.cur.used-p.cur.new)) p.cl.next-zg (wr (p.cur.used-p.cur.new)) p.rate)+jL p.rate p.rows p.now
theorem zjI{g:XH}{p:Pro}(hp:ProL p):Cl C (fun _=>False) 84 [.agg (zC p)] g fun u g'=>u=fi (zgC p)∧g'=g:=by
 have hrl:=hp.rows;have hnl:=hp.now;refine Cl.ip rfl (zuJ rfl) fun Ψ hΨ=> ?_;simp[zC,pC,zP,zi,zD];refine zb.pure (zm5 ..) ?_;have hb0:=zF (wr (p.cur.used-p.cur.new)) p.cl.next
 have hb1:=zF (wr (p.cur.used-p.cur.new)) p.rate;have h00:zgC p=(zg (wr (p.cur.used-p.cur.new)) p.cl.next-zg (wr (p.cur.used-p.cur.new)) p.rate)+jL p.rate p.rows p.now:=rfl;simp;generalize hB:zg (wr (p.cur.used-p.cur.new)) p.cl.next-zg (wr (p.cur.used-p.cur.new)) p.rate=B at *
 refine Lp.genU (σ:=Unit) p.rows.length (fun k _=>[(3,fi (B+jL p.rate (p.rows.take k) (p.now.take k))),(22,fi k)]) (fun _ _=>g++[.own 0 84 41 (zC p)]) (fun _ _=>True) () (by decide) rfl (by simp[jL]) rfl trivial ?_ ?_
 ·rintro q hq _ _ hlt N hN;obtain⟨a1,a2,_⟩:=atX yl hq;have hqn:q<p.now.length:=by omega
  have e1:=zaF hqn;have e2:=zc7 p.rate p.rows p.now q hq hqn;have hb2:=zc6 p.rate (p.rows.take q) (p.now.take q);have hb3:=zF p.rows[q].m p.now[q];have hb4:=zF p.rows[q].m p.rate;rw[zu6,zvD (by omega)] at hb2;have w1:IntKind.i64.wrap (B+jL p.rate (p.rows.take q) (p.now.take q)+(zg p.rows[q].m p.now[q]-zg p.rows[q].m p.rate))=B+jL p.rate (p.rows.take (q+1)) (p.now.take (q+1)):=by rw[e2,ze (by omega) (by omega)];omega
  simp[l84_0,hq,hqn,a1,a2,e1,jI,zC,pC,zP,zi,zD];refine zb.pure (zm5 ..) ?_;simp[w1,yB hq (by omega)];exact y7 (fun fr g'=>hN () fr g' trivial) (by simp[zC,pC,zP,zi,zD]) (by simp) (by simp) (by simp[lvO])
 ·rintro _ _;rw[zvd,zvG (by omega)];simp[l84_0];exact Gh.pure .i (hΨ _ _ ⟨by rw[h00],rfl⟩)
def Ja(p:Pro):List It:=[⟨1,zg p.inp.book p.rate⟩,⟨2,zg p.inp.perm p.rate⟩,⟨3,zgC p⟩,⟨4,wr (p.tr+p.lr)⟩,⟨5,p.am⟩,⟨6,zg p.cur.expired p.cl.next⟩,⟨7,p.inp.up⟩]
def ql(p:Pro):List It:=Ja p++[⟨8,wr (p.total-zgR (Ja p))⟩]
theorem zjH{g:XH}{p:Pro}(hp:ProL p):Cl C (fun _=>False) 34 [.agg (zC p)] g fun u g'=>u= .s (zaP (ql p))∧g'=g:=by refine Cl.ip rfl (zuJ rfl) fun Ψ hΨ=> ?_;have hR:=fun g:XH=>zjI (g:=g) hp;simp[zC,pC,zP,zi,zD] at hR⊢;refine zy 38 [1] (fun _=>False) (by decide) (by decide) ?_;simp only[zu8,zvE,zvj,zve];simp;refine zb.pure (zkX ..) ?_;simp;refine zb.pure (zkX ..) ?_;simp;refine zb.go0 (hR _) ?_;simp;refine zb.pure (zkX ..) ?_;simp;refine zy 5 [1] (fun _=>False) (by decide) (by decide) ?_;simp only[zu8,zvE,zvj,zve];simp;refine zb.go0 (zif (RdX.sl (l:=Ja p) (i:=g.length+1) (w:=0) yh (by simp[Ja,y6])) (by simp[Ja])) ?_;simp;refine Gh.pure (u':= .s (zaP (ql p))) (.s (.fl (l:=ql p) (t:=43) yh (fun m a=>zcx a m) (by omega) ?_)) (hΨ _ _ ⟨rfl,rfl⟩);simp[ql,Ja,y6]
def YO(n:Int):Bool:=decide (-400000000000≤n∧n≤400000000000)
theorem nearQ(n:Int):Pure C 81 [fi n] (fb (YO n)):=by
 refine Pure.intro0 (e:=e81) rfl (zuJ rfl) (by simp) fun g Ψ h0 hJ=> ?_;simp
 repeat' first|(refine zc (fun hc=> ?_) (fun hc=> ?_)<;>try simp)
 all_goals(simp at *;exact q6 h0 (by simp[YO, *]<;>omega))
def jt(x:It)(fx:Int):It:=⟨x.k,zg x.n fx⟩
def qL(l:List It):Int:=(l.map (·.n)).sum
def jK(l:List It)(fx:Int):Int×List It×Int:=
 if fx<1∨10000000<fx∨20<l.length then(1,[],0)
 else if¬l.all (fun x=>YO x.n)=true then(1,[],0)
 else if¬Yx (qL l) fx then(1,[],0)
 else(0,l.map fun x=>jt x fx,zg (qL l) fx-qL (l.map fun x=>jt x fx))
theorem zmA(l:List It){k:Nat}(hk:k<l.length):qL (l.take (k+1))=qL (l.take k)+l[k].n:=by unfold qL;rw[zu3 hk,zvs,zwZ];simp
theorem zoW(l:List It)(x:It):qL (l++[x])=qL l+x.n:=by simp[qL]
theorem zgQ(B:Int)(hB:0≤B):∀(l:List It),(∀x∈l,-B≤x.n∧x.n≤B)→-(B*(l.length:Int))≤qL l∧qL l≤B*(l.length:Int):=fun l h=>zbL (fun x:It=>x.n) B hB l h
theorem zlU{g:XH}{v:XV}{l:List It}(hr:RdX g 43 2 y6 v l)(hl:l.length≤1000)(fx:Int):Cl C (fun _=>False) 33 [.s v,fi fx] g fun u g'=>u= .tup [.s (zaP (jK l fx).2.1),fi (jK l fx).2.2,fi (jK l fx).1]∧g'=g:=by
 refine Cl.ip rfl (zuJ rfl) fun Ψ hΨ=> ?_;have bad:∀J,jK l fx=(1,[],0)→Gh (fun _=>False) g Ψ (.tup [.s (.v .nils),fi 0,fi 1]) (g++J):=fun J h=>Gh.pure (u':= .tup [.s (.lst 43 2 0 []),fi 0,fi 1]) (.cons (.s .nil) (.cons .i (.cons .i .nil))) (hΨ _ _ ⟨by rw[h];rfl,rfl⟩);have bad0:jK l fx=(1,[],0)→Gh (fun _=>False) g Ψ (.tup [.s (.v .nils),fi 0,fi 1]) g:=fun h=>by simpa using bad [] h
 simp[hr.len];refine zc (fun h1=> ?_) (fun h1=> ?_)
 ·simp at h1⊢;exact bad0 (by unfold jK;rw[zuT (.inl h1)])
 simp at h1⊢;refine zc (fun h2=> ?_) (fun h2=> ?_)
 ·simp at h2⊢;exact bad0 (by unfold jK;rw[zuT (.inr (.inl h2))])
 simp at h2;simp[hr.len];refine zc (fun h3=> ?_) (fun h3=> ?_)
 ·simp at h3⊢;exact bad0 (by unfold jK;rw[zuT (.inr (.inr (by omega)))])
 simp at h3
 have e0:jK l fx=if¬l.all (fun x=>YO x.n)=true then(1,[],0)
  else if¬Yx (qL l) fx then(1,[],0)
  else(0,l.map fun x=>jt x fx,zg (qL l) fx-qL (l.map fun x=>jt x fx)):=by unfold jK;rw[zuV (by omega)]
 simp[hr.len];refine Lp.genG 43 2 (σ:=Nat) l.length (fun k w=>[(7,fi (qL (l.take k))),(8,fi (qL ((l.take k).map fun x=>jt x fx))),(9,.s (.sl g.length w 0 k)),(29,fi k)]) (fun k w=>g++[.own w 43 2 (((l.take k).map fun x=>jt x fx).flatMap y6)]) (fun k _=>(l.take k).all (fun x=>YO x.n)=true) 0 (by decide) rfl (by simp[GhF,qL]) (by simp) (by simp) ?_ ?_
 ·rintro q hq w hP hlt N hN;obtain⟨p1,cs,o1,b1,b2,b3,b4,b5,_⟩:=hr.atJ yh (by decide) hq;have e1:(l.take (q+1)).map (fun x=>jt x fx)=(l.take q).map (fun x=>jt x fx)++[jt l[q] fx]:=by rw[zu3 hq,zvs];rfl
  have e2:=zmA l hq;have e3:(l.take (q+1)).all (fun x=>YO x.n)=((l.take q).all (fun x=>YO x.n)&&YO l[q].n):=zap hq;have hb1:=zgQ 400000000000 (by omega) (l.take q) fun x hx=>by have:=zva.1 hP x hx;simpa[YO] using this
  have hb2:=zgQ 4000000000001 (by omega) ((l.take q).map fun x=>jt x fx) fun x hx=>by obtain⟨y,_,rfl⟩:=zvZ.1 hx;exact zF _ _
  rw[zvc] at hb2;rw[zu6,zvD (by omega)] at hb1 hb2;have hb3:=zF l[q].n fx;have hfl:(((l.take q).map fun x=>jt x fx).flatMap y6).length=q*2:=by rw[zf yh];simp;omega
  have hlF:∀m,zr m (((l.take q).map fun x=>jt x fx).flatMap y6):=fun m=>znw m _;have w2:IntKind.i64.wrap (qL ((l.take q).map fun x=>jt x fx)+zg l[q].n fx)=qL ((l.take q).map (fun x=>jt x fx)++[jt l[q] fx]):=by rw[zoW];exact ze (by simp only[jt] at *;omega) (by simp only[jt] at *;omega)
  rw[e1,zvq] at hN;generalize hF:((l.take q).map fun x=>jt x fx).flatMap y6=F at *;simp[-List.map_take,l33_0,hq,b3,b4,b5,y6];refine zb.pure (nearQ ..) ?_;simp[-List.map_take];refine zc (fun k1=> ?_) (fun k1=> ?_)
  rotate_left
  ·simp;refine bad _ ?_;rw[e0,zuT];intro h;have:=zva.1 h _ (zvi hq);simp[k1] at this
  have hn:YO l[q].n=true:=k1;simp[-List.map_take];refine zb.pure (ofX ..) ?_;have w1:IntKind.i64.wrap (qL (l.take q)+l[q].n)=qL (l.take (q+1)):=by rw[e2];simp[YO] at hn;exact ze (by omega) (by omega)
  simp[-List.map_take,w1,w2,hfl,show(q+1)*16≤140737488355328 by omega,yB hq (by omega)];exact y7 (fun fr g'=>hN (w+1) fr g' (by rw[e3,hP,hn];rfl)) (by simp[y6,jt]) (by simp[-List.map_take]) (by simpa using hlt) (by simp[lvO,hlF])
 ·rintro w hP;rw[zvd] at hP⊢;rw[zuV (by simpa using hP)] at e0;have hb2:=zgQ 4000000000001 (by omega) (l.map fun x=>jt x fx) fun x hx=>by
   obtain⟨y,_,rfl⟩:=zvZ.1 hx;exact zF _ _
  rw[zvc] at hb2;have hb3:=zF (qL l) fx;have hw:IntKind.i64.wrap (zg (qL l) fx-qL (l.map fun x=>jt x fx))=zg (qL l) fx-qL (l.map fun x=>jt x fx):=ze (by omega) (by omega);simp[l33_0];refine zb.pure (ofX ..) ?_;simp[hw];refine zc (fun k1=> ?_) (fun k1=> ?_)
  ·simp at k1;rw[zuV (by simpa using k1)] at e0;simp[hw];exact Gh.pure (u':= .tup [.s (zaP (l.map fun x=>jt x fx)),fi (zg (qL l) fx-qL (l.map fun x=>jt x fx)),fi 0]) (.cons (.s (by
    rw[show l.length=(l.map fun x=>jt x fx).length by simp];exact .fl (t:=43) yh (fun m a=>zcx a m) (zuQ _) (by simp))) (.cons .i (.cons .i .nil))) (hΨ _ _ ⟨by rw[e0],rfl⟩)
  ·simp at k1;rw[zuT (by simpa using k1)] at e0;simp;exact bad _ e0
theorem growX{g:XH}{n:Int}(h0:0≤n)(h1:n≤1000000):Cl C (fun _=>False) 161 [.s (.v .nils),fi n] g (qk g 43 2 0 []):=by
 rintro R args1 rfl H ra;obtain⟨a1,a2,rfl,q1,q2⟩:∃a1 a2,args1=[.s a1,.s a2]∧RV R (.v .nils) a1∧RV R (xi n) a2:=by
  match args1,ra with
  |[.s a1,.s a2],h=>simp only[RFs,RF] at h;exact⟨a1,a2,rfl,h.1,h.2.1⟩
  |[],h=>simp[RFs] at h
  |[_],h=>simp[RFs] at h
  |_::_::_::_,h=>simp[RFs] at h
  | .agg _::_,h=>simp[RFs,RF] at h
  | .tup _::_,h=>simp[RFs,RF] at h
  | .s _:: .agg _::_,h=>simp[RFs,RF] at h
  | .s _:: .tup _::_,h=>simp[RFs,RF] at h
 simp only[RV] at q1 q2;obtain⟨rfl,_⟩:=q1;obtain⟨rfl,_⟩:=q2;by_cases hn:n=0
 ·have hg:zaI [.s .nils,.s (.int .i64 n)] R.h=some ([.s .nils],R.h):=by
   simp[zaI,h0,h1,hn]
  have hc:=ZC (C:=C) (f:=161) (g:=zaI) (k:=2) rfl (args:=[.s .nils,.s (.int .i64 n)]) (h:=R.h) (h':=R.h) (v:= .s .nils) rfl hg (zuQ _) rfl;have:=zky (W:=fun _=>False) (g:=R.g) (t:=43) (z:=2) (Ψ:=qk R.g 43 2 0 []) (fun _ _ h=>h);obtain⟨R2,u2,b1,b2,b3,b4,b5⟩:=this R R (.s .nils) rfl H H (Ex2.refl _ _) rfl (by simp[RF,RV,nlS]);exact⟨.s .nils,R.h,hc,R2,u2,b1,b2,b3,b4,b5⟩
 ·have hg:zaI [.s .nils,.s (.int .i64 n)] R.h=some ([.s (.sl R.h.length 0 0 0)],R.h++[.own 43 []]):=by
   simp[zaI,h0,h1,hn]
  have hc:=ZC (C:=C) (f:=161) (g:=zaI) (k:=2) rfl (args:=[.s .nils,.s (.int .i64 n)]) (h:=R.h) (h':=R.h++[.own 43 []]) (v:= .s (.sl R.h.length 0 0 0)) rfl hg (by simp) rfl;have:=QE H (w:=0) (t:=43) (z:=2) (cs:=[]) (vs:=[]) (by simp[RVs]);exact⟨_,_,hc,R.new (.own 0 43 2 []) (.own 43 []),.s (.sl R.g.length 0 0 0),rfl,this.1,Yw _ _ _ _,by simp only[RF];exact(QF 0).2,0,rfl,rfl⟩
theorem zm9{α:Type}{enc:α→List XV}{t z y:Nat}(he:∀a,(enc a).length=z)(hz:z≠0){g:XH}{w:Nat}{M a:List α}(hy:(M.length+a.length)*y≤140737488355328):∃w',zci (g++[.own w t z (M.flatMap enc)]) t z y (.s (.sl g.length w 0 M.length)) a.length (a.flatMap enc)=some (.s (.sl g.length w' 0 (M++a).length),g++[.own w' t z ((M++a).flatMap enc)]):=by
 have hl:(M.flatMap enc).length=M.length*z:=zf he M;by_cases h0:a.length=0
 ·have ha:a=[]:=zv3 h0;subst ha;refine⟨w,?_⟩;simp[zm7]
 ·refine⟨w+1,?_⟩;rw[zfI h0];have h1:(a.flatMap enc).length≠0:=by rw[zf he];exact zxw h0 hz
  rw[zuV h1];simp[hl,hy]
theorem zqf{g:XH}{k w:Nat}{va vb:XV}{a b:List It}(hk:g[k]? =some (.own w 32 1 [va,vb]))(ha:RdX g 43 2 y6 va a)(hb:RdX g 43 2 y6 vb b)(hal:a.length≤1000)(hbl:b.length≤1000):
 Cl C (fun _=>False) 85 [.s (.sl k w 0 2)] g (qk g 43 2 (a++b).length ((a++b).flatMap y6)):=by
 have lk:=zd hk;refine Cl.ip rfl (zuJ rfl) fun Ψ hΨ=> ?_;simp;refine Lp.genU (σ:=Unit) 2 (fun k _=>[(3,fi (if k=0 then 0 else if k=1 then(a.length:Int) else((a.length+b.length:Nat):Int))),(11,fi k)]) (fun _ _=>g) (fun _ _=>True) () (by decide) rfl (by simp) rfl trivial ?_ ?_
 ·rintro q hq _ _ hlt N hN;have hla:=ha.len;have hlb:=hb.len;obtain rfl|rfl:q=0∨q=1:=by omega
  ·simp[l85_0,hk,lk,hla,ze (n:=(a.length:Int)) (by omega) (by omega),show¬(a.length:Int)<0 by omega,show IntKind.i64.wrap 1=1 from rfl];exact qG () hN trivial (by simp) (by simpa using hlt)
  ·simp[l85_0,hk,lk,hlb,ze (n:=(a.length:Int)+b.length) (by omega) (by omega),show¬(a.length:Int)+b.length<0 by omega,show IntKind.i64.wrap 2=2 from rfl];exact qG () hN trivial (by simp) (by simpa using hlt)
 ·rintro _ _;simp[l85_0];refine zb.go (growX (n:=(a.length:Int)+b.length) (by omega) (by omega)) (fun _ _ h=>h.elim) ?_;rintro u g' ⟨w1,rfl,rfl⟩;simp;refine Lp.genU (σ:=Nat) 2 (fun k w=>[(6,.s (.sl g.length w 0 (if k=0 then([]:List It) else if k=1 then a else a++b).length)),(27,fi k)]) (fun k w=>g++[.own w 43 2 ((if k=0 then([]:List It) else if k=1 then a else a++b).flatMap y6)]) (fun _ _=>True) w1 (by decide) rfl (by simp) (by simp) trivial ?_ ?_
  ·rintro q hq w2 _ hlt N hN;obtain rfl|rfl:q=0∨q=1:=by omega
   ·obtain⟨w3,h3⟩:=zm9 (g:=g) (t:=43) (y:=16) yh (by decide) (w:=w2) (M:=[]) (a:=a) (by simp;omega);have h4:=fun J=>(ha.app (J:=J)).el;simp at h3 h4 hN hlt;simp[l85_1,hk,lk,h4,h3,show IntKind.i64.wrap 1=1 from rfl];exact y7 (fun fr g'=>hN w3 fr g') rfl (by simp) (by simp[lk];omega) (by simp[lvO])
   ·obtain⟨w3,h3⟩:=zm9 (g:=g) (t:=43) (y:=16) yh (by decide) (w:=w2) (M:=a) (a:=b) (by omega);have h4:=fun J=>(hb.app (J:=J)).el;simp at h3 h4 hN hlt;simp[l85_1,hk,lk,h4,h3,show IntKind.i64.wrap 2=2 from rfl];exact y7 (fun fr g'=>hN w3 fr g') rfl (by simp) (by simp[lk];omega) (by simp[lvO])
  ·rintro w2 _;simp[l85_1];rw[←zuR,←zvq];exact zhq (k:=0) (J:=[.own w2 43 2 ((a++b).flatMap y6)]) rfl (by simp) (fun u g' h=>hΨ u g' h)
def zgj(k:Int)(x:It):Bool:=x.k==k
theorem keyTP(x y:It){g:XH}{a:Nat}(ha:g[a]? =some (.own 0 43 2 (y6 y))):Cl C (fun _=>False) 87 [.agg (y6 x),.s (.ptr a 0 0)] g fun u g'=>u=fb (zgj y.k x)∧g'=g:=by have la:=zd ha;refine Cl.ip rfl (zuJ rfl) fun Ψ hΨ=> ?_;simp[y6] at ha⊢;simp[ha,la];exact Gh.pure (.s (.lt (by simp))) (hΨ _ _ ⟨by simp[zgj],rfl⟩)
def zaZ(k:Int)(f:It→It):List It→List It
 |[]=>[f ⟨k,0⟩]
 |x::l=>if zgj k x then f x::l else x::zaZ k f l
theorem zab(k:Int)(f:It→It):∀(l:List It) (j:Nat),(ym (zgj k) j l= -1∧zaZ k f l=l++[f ⟨k,0⟩])∨∃i,ym (zgj k) j l=((j+i:Nat):Int)∧∃h:i<l.length,zaZ k f l=l.set i (f l[i])
 |[],j=> .inl ⟨rfl,rfl⟩
 |x::l,j=>by
  unfold ym zaZ;cases hk:zgj k x with
  |true=>exact .inr ⟨0,by simp,by simp,by simp⟩
  |false=>
   rcases zab k f l (j+1) with⟨h1,h2⟩|⟨i,h1,h2,h3⟩
   ·exact .inl ⟨by simpa using h1,by simp[h2]⟩
   ·exact .inr ⟨i+1,by simp only[zvg,if_false];rw[h1];congr 1;omega,by simpa using h2,by simp[h3]⟩
theorem zov(k:Int)(f:It→It)(l:List It):(zaZ k f l).length≤l.length+1:=by rcases zab k f l 0 with⟨_,h⟩|⟨i,_,_,h⟩<;>rw[h]<;>simp
def QN(l:List It)(x:It):List It:=zaZ x.k (fun y=>⟨y.k,wr (y.n+x.n)⟩) l
theorem zan:∀(b:List It) (l:List It),(b.foldl QN l).length≤l.length+b.length
 |[],l=>by simp
 |x::b,l=>by have h1:=zan b (QN l x);have h2:=zov x.k (fun y=>⟨y.k,wr (y.n+x.n)⟩) l;simp only[zwD,zvA];unfold QN at h1⊢;omega
def ltT(a b:It):Bool:=decide (a.k<b.k)
def zek(a b:List It):List It:=zu ltT ((a++b).foldl QN [])
def zeF(l:List It):Prop:=l.Pairwise fun a b=>a.k≠b.k
theorem zc9:∀{l:List It},zeF l→jF ltT l=true
 |[],_=>rfl
 |x::l,h=>by obtain⟨h1,h2⟩:=zvh.1 h;simp only[jF,zuS,zva];refine⟨fun y hy=> ?_,zc9 h2⟩;have:=h1 y hy;simp[ltT];omega
theorem zh9{k:Int}{f:It→It}(hf:∀w,(f w).k=w.k):∀{l:List It} {x:It},x∈zaZ k f l→x.k=k∨∃z∈l,x.k=z.k
 |[],x,h=>by
  simp[zaZ] at h;subst h;exact .inl (hf _)
 |z::l,x,h=>by
  unfold zaZ at h;split at h
  ·rcases zu4.1 h with rfl|h
   ·exact .inr ⟨z,by simp,hf z⟩
   ·exact .inr ⟨x,by simp[h],rfl⟩
  ·rcases zu4.1 h with rfl|h
   ·exact .inr ⟨x,by simp,rfl⟩
   ·rcases zh9 hf h with h|⟨z',h1,h2⟩
    ·exact .inl h
    ·exact .inr ⟨z',by simp[h1],h2⟩
theorem zff{k:Int}{f:It→It}(hf:∀w,(f w).k=w.k):∀{l:List It},zeF l→zeF (zaZ k f l)
 |[],_=>by simp[zaZ,zeF]
 |z::l,h=>by
  obtain⟨h1,h2⟩:=zvh.1 h;unfold zaZ;split
  ·refine zvh.2 ⟨fun a ha=> ?_,h2⟩;rw[hf z];exact h1 a ha
  ·rename_i hk;refine zvh.2 ⟨fun a ha=> ?_,zff hf h2⟩;rcases zh9 hf ha with e1|⟨z',hz,e1⟩
   ·rw[e1];simpa[zgj] using hk
   ·rw[e1];exact h1 z' hz
theorem zdq:∀(b:List It) (l:List It),zeF l→zeF (b.foldl QN l)
 |[],_,h=>h
 |x::b,l,h=>zdq b (QN l x) (zff (f:=fun y=>⟨y.k,wr (y.n+x.n)⟩) (fun _=>rfl) h)
def cT(b:It):List SV:=[.int .i64 b.k,.int .i64 b.n]
theorem zki(l:List It):(l.flatMap cT).map XV.v=l.flatMap y6:=by rw[zxn];rfl
theorem ltK_T(a b:It):ltK [0] (cT a) (cT b)=ltT a b:=by simp[ltK,cT,ltT]
theorem fxAdd{g:XH}{va vb:XV}{a b:List It}(ha:RdX g 43 2 y6 va a)(hb:RdX g 43 2 y6 vb b)(hal:a.length≤400)(hbl:b.length≤400):
 Cl C (fun _=>False) 35 [.s va,.s vb] g fun u g'=>u= .s (zaP (zek a b))∧g'=g:=by
 refine Cl.ip rfl (zuJ rfl) fun Ψ hΨ=> ?_;simp;refine zb.go (Fresh.frz (zqf (k:=g.length) (w:=0) (va:=va) (vb:=vb) (by simp) ha.app hb.app (by omega) (by omega)) (by simp) (by rw[zf yh])) (fun _ _ h=>h.elim) ?_;rintro u g' ⟨rfl,rfl⟩;have h0:zek a b=zu ltT ((a++b).foldl QN []):=rfl;have hll:(a++b).length≤800:=by simp;omega
 have hdist:=zc9 (zdq (a++b) [] List.Pairwise.nil);rw[h0] at hΨ;generalize a++b=l at *;simp;generalize hK:g++[XO.own 0 32 1 [va,vb]]=K;change XH at K;have hgK:g.length≤K.length:=by rw[←hK];simp
 refine Lp.genG 43 2 (σ:=Nat×List It) l.length (fun k s=>[(5,.s (.sl K.length s.1 0 s.2.length)),(14,fi k)]) (fun k s=>K++[.own s.1 43 2 (s.2.flatMap y6)]) (fun k s=>s.2=(l.take k).foldl QN []) (0,[]) (by decide) rfl (by simp[GhF]) (by simp) (by simp) ?_ ?_
 ·rintro q hq ⟨w,L⟩ hP hlt N hN;simp only at *;subst hP;have hLl:=zan (l.take q) [];rw[zu6,zwb] at hLl;have hs:=zbp QN [] l hq;generalize(l.take q).foldl QN []=L at *;obtain⟨a1,a2,_⟩:=atX yh hq;have h2:=zf yh L;have hI:=Ys (q:=zgj l[q].k) (f:=86) (t:=43) (z:=2) (enc:=y6) (c:= .cl (K.length+2)) (l:=L) (v:= .sl K.length w 0 L.length) (g:=K++[.own w 43 2 (L.flatMap y6),.own 0 43 2 [xi l[q].k,xi l[q].n],.clo 87 [] [.s (.ptr (K.length+1) 0 0)]]) rfl yh (by decide) (RdX.sl yh (by simp)) (by omega) (.inr ⟨K.length+2,87,[],[.s (.ptr (K.length+1) 0 0)],rfl,by simp,fun x _=>keyTP x l[q] (by simp[y6])⟩);simp[l35_0,hq,a1,a2,y6,hgK,show g.length≤K.length+1 by omega];refine zb.go0 hI ?_;clear hI;have hp:=zab l[q].k (fun y=>⟨y.k,wr (y.n+l[q].n)⟩) L 0;rcases hp with⟨e1,e2⟩|⟨i,e1,hi,e2⟩
  ·have h1:=jT yh (l:=L++[⟨l[q].k,0⟩]) (k:=L.length) (by simp) (c:=1) (by decide) (v:=xi (wr (0+l[q].n))) (x:=⟨l[q].k,wr (0+l[q].n)⟩) (by simp[y6]) [];have e3:(L++[(⟨l[q].k,0⟩:It)]).set L.length ⟨l[q].k,wr (0+l[q].n)⟩=L++[⟨l[q].k,wr (0+l[q].n)⟩]:=by
    rw[zvX _ _ (zuQ _),zvN];rfl
   rw[e3] at h1;simp[y6,zxr] at h1;have e4:QN L l[q]=L++[⟨l[q].k,wr (0+l[q].n)⟩]:=e2;have h5:((L.flatMap y6)++[xi l[q].k,xi 0])[L.length*2+1]? =some (xi 0):=by rw[zuP (by omega),h2];simp
   simp[e1,h2,hgK,show(L.length+1)*16≤140737488355328 by omega,h5,h1,show(L.length:Int)<L.length+1 by omega,show L.length*2+1+1≤L.length*2+2 by omega,yB hq (by omega)];exact y7 (fun fr g'=>hN (w+1,QN L l[q]) fr g' hs.symm) (by rw[e4];simp[y6,zxr]) (by rw[e4];simp) (by rw[e4];simp) (by simp[lvO])
  ·rw[zvv] at e1;have h1:=jT yh (l:=L) (k:=i) hi (c:=1) (by decide) (v:=xi (wr (L[i].n+l[q].n))) (x:=⟨L[i].k,wr (L[i].n+l[q].n)⟩) rfl [];simp only[zvl] at h1;have h3:i*2+1+1≤(L.flatMap y6).length:=by omega
   have h4:¬L.flatMap y6=[]:=fun e=>by rw[e] at h2;simp at h2;omega
   have h5:(L.flatMap y6)[i*2+1]? =some (xi L[i].n):=by have:=(atX yh hi).2.2 1 (by decide);simpa[y6] using this
   rw[←e2] at h1;have e3:(zaZ l[q].k (fun y=>⟨y.k,wr (y.n+l[q].n)⟩) L).length=L.length:=by rw[e2,zvw]
   simp[e1,hi,h1,h3,h4,h5,hgK,show¬(i:Int)<0 by omega,yB hq (by omega)];exact y7 (fun fr g'=>hN (w,QN L l[q]) fr g' hs.symm) rfl (by simp[QN,e3]) (by simp) (by simp[lvO])
 ·rintro⟨w,L⟩ hP;simp only[zvd] at *;subst hP;have hLl:=zan l [];rw[zwb] at hLl;generalize l.foldl QN []=L at *;simp[l35_0];refine zb.go (za6 (o:=0) (enc:=cT) (lta:=ltT) rfl (fun _=>rfl) (by decide) (fun a v hv=>by simp[cT] at hv;rcases hv with rfl|rfl<;>rfl) (fun _=>rfl) ltK_T (l:=L) (cs:=L.flatMap y6) (w:=w) (k:=K.length) (by simp) (by rw[zvv,zf yh];exact zuQ _) (by rw[zv4,zve,←zf yh,zvd,zki]) hdist (by omega)) (fun x hx e=> .inl (by omega)) ?_;rintro u g' ⟨rfl,rfl⟩;rw[zki,zv4,ZV (by rw[zf yh,zf yh,zJ])];have hil:(zu ltT L).length=L.length:=zJ _ _;rw[←hil];simp;subst hK;rw[zu9];exact Gh.pure (.s (.fl (t:=43) yh (fun m a=>zcx a m) (by simp) (by simp))) (hΨ _ _ ⟨rfl,rfl⟩)
def jd(j:Jo):List XV:=[xi j.seq,xs j.id,xi j.p,xi j.kind,xi j.of,zjk j.l]
theorem qC(j:Jo):(jd j).length=6:=rfl
@[simp] theorem zfW(j:Jo)(m:Nat):zr m (jd j):=by simp[jd]
@[simp] theorem znt(m:Nat)(l:List Jo):zr m (l.flatMap jd):=zQ (fun a=>zfW a m) l
def qb(g:XH)(i k:Nat)(l:List Jo):Prop:=∃w,g[i]? =some (.own 0 175 1 [.sl k w 0 l.length])∧g[k]? =some (.own w 184 6 (l.flatMap jd))
structure StoL(l:List Jo):Prop where
 len:l.length≤200
 l:∀j∈l,j.l.length≤20
theorem qb.app{g J:XH}{i k:Nat}{l:List Jo}(h:qb g i k l):qb (g++J) i k l:=by obtain⟨w,h1,h2⟩:=h;exact⟨w,by rw[zq (zd h1)];exact h1,by rw[zq (zd h2)];exact h2⟩
def zob(l:List Li)(a:Int):Int:=if zaD l then jb l a else 0
def zlu(id:ByteArray)(a upto:Int)(n:Int)(j:Jo):Int:=if j.id==id&&decide (j.p≤upto) then wr (n+zob j.l a) else n
def zcR(l:List Jo)(id:ByteArray)(a upto:Int):Int:=l.foldl (zlu id a upto) 0
theorem zed{g:XH}{i k:Nat}{l:List Jo}(h:qb g i k l)(hl:StoL l)(id:ByteArray)(a upto:Int):Cl C (fun _=>False) 103 [.s (.ptr i 0 0),fs id,fi a,fi upto] g fun u g'=>u=fi (zcR l id a upto)∧g'=g:=by
 obtain⟨w,hi,hk⟩:=h;have li:=zd hi;have lk:=zd hk;have hll:=hl.len;refine Cl.ip rfl (zuJ rfl) fun Ψ hΨ=> ?_;simp[hi,li];refine Lp.foldU l (fun q (s:Int)=>[(9,fi s),(17,fi q)]) (fun _ _=>g) (zlu id a upto) 0 (by decide) rfl (by simp) rfl ?_ ?_
 ·rintro q hq s hs hlt N hN;obtain⟨a1,a2,_⟩:=atX qC hq;have hjl:=hl.l _ (zvi hq);have e:zlu id a upto s l[q]=if l[q].id==id&&decide (l[q].p≤upto) then wr (s+zob l[q].l a) else s:=rfl
  rw[e] at hN;clear e;generalize l[q]=j at *;simp[l103_0,hq,a1,a2,hk,lk,jd,y0];refine zc (fun k1=> ?_) (fun k1=> ?_)
  ·simp at k1;simp;refine zc (fun k2=> ?_) (fun k2=> ?_)
   ·simp at k2;simp;refine zb.go0 (zji (RdX.lst _ j.l) (by omega) a) ?_;simp[yB hq (by omega)];rw[zuT (by simp[k1,k2,z2])] at hN;exact Jg hN (by simp[zob]) (by simpa using hlt)
   ·simp at k2;simp[yB hq (by omega)];rw[zuV (by simp[k1,z2];omega)] at hN;exact Jg hN (by simp) (by simpa using hlt)
  ·simp at k1;simp[yB hq (by omega)];rw[zuV (by simp[k1,z2])] at hN;exact Jg hN (by simp) (by simpa using hlt)
 ·rintro s rfl;simp[l103_0];exact Gh.here (hΨ _ _ ⟨rfl,rfl⟩)
theorem zsX{g:XH}{v:XV}{l:List Li}(r:RdX g 189 2 jy v l)(hl:l.length≤1000000):Cl C (fun _=>False) 173 [.s v] g fun u g'=>u= .s (zjk l)∧g'=g:=
 zfK (z:=2) rfl rfl rfl yW (by decide) r (fun m a=>zcw a m) (by omega)
theorem zjh{g:XH}{j:Jo}(hj:j.l.length≤1000):Cl C (fun _=>False) 101 [.agg (jd j)] g fun u g'=>u= .agg (jd j)∧g'=g:=by refine Cl.ip rfl (zuJ rfl) fun Ψ hΨ=> ?_;simp[jd];refine zb.go0 (zsX (RdX.lst _ j.l) (by omega)) ?_;simp;exact Gh.pure (u':= .agg (jd j)) (.agg (.lts (zfW j _))) (hΨ _ _ ⟨rfl,rfl⟩)
theorem zcg{g:XH}{i k:Nat}{l:List Jo}(h:qb g i k l)(hl:StoL l):Cl C (fun _=>False) 48 [.s (.ptr i 0 0)] g (qk g 184 6 l.length (l.flatMap jd)):=by
 have hP:=h;obtain⟨w,hi,hk⟩:=h;have li:=zd hi;have lk:=zd hk;have hll:=hl.len;refine Cl.ip rfl (zuJ rfl) fun Ψ hΨ=> ?_;simp[hi,li];refine Lp.genG 184 6 (σ:=Nat) l.length (fun k w=>[(3,.s (.sl g.length w 0 k)),(11,fi k)]) (fun k w=>g++[.own w 184 6 ((l.take k).flatMap jd)]) (fun _ _=>True) 0 (by decide) rfl (by simp[GhF]) (by simp) trivial ?_ ?_
 ·rintro q hq w2 _ hlt N hN;obtain⟨a1,a2,_⟩:=atX qC hq;have e1:l.take (q+1)=l.take q++[l[q]]:=zu3 hq;have hfl:((l.take q).flatMap jd).length=q*6:=by rw[zf qC];simp;omega
  have hlF:∀m,zr m ((l.take q).flatMap jd):=fun m=>znt m _;have hjl:=hl.l _ (zvi hq);rw[e1,zvq] at hN;generalize(l.take q).flatMap jd=F at *;generalize l[q]=j at *;have hO:=fun g=>zjh (g:=g) (j:=j) (by omega);simp[jd] at hO;simp[l48_0,hq,a1,a2,hk,lk,jd];refine zb.go0 (hO _) ?_;simp[hfl,show(q+1)*72≤140737488355328 by omega,yB hq (by omega)];exact y7 (fun fr g'=>hN (w2+1) fr g' trivial) (by simp[jd]) (by simp) (by simpa using hlt) (by simp[lvO,hlF])
 ·rintro w2 _;rw[zvd];simp[l48_0];exact Gh.here (hΨ _ _ ⟨w2,rfl,rfl⟩)
def zdC(of:Int)(j:Jo):Bool:=j.seq==of
def zii(of:Int)(j:Jo):Bool:=j.kind==2&&j.of==of
theorem keyJP(x:Jo)(of:Int){g:XH}{a:Nat}(ha:g[a]? =some (.own 0 3 1 [xi of])):Cl C (fun _=>False) 326 [.agg (jd x),.s (.ptr a 0 0)] g fun u g'=>u=fb (zdC of x)∧g'=g:=by have la:=zd ha;refine Cl.ip rfl (zuJ rfl) fun Ψ hΨ=> ?_;simp[jd,ha,la];exact Gh.pure (.s (.lt (by simp))) (hΨ _ _ ⟨by simp[zdC],rfl⟩)
theorem revJP(x:Jo)(of:Int){g:XH}{a:Nat}(ha:g[a]? =some (.own 0 3 1 [xi of])):Cl C (fun _=>False) 328 [.agg (jd x),.s (.ptr a 0 0)] g fun u g'=>u=fb (zii of x)∧g'=g:=by
 have la:=zd ha;refine Cl.ip rfl (zuJ rfl) fun Ψ hΨ=> ?_;simp[jd,ha,la]
 repeat' first|(refine zc (fun hc=> ?_) (fun hc=> ?_)<;>try simp[jd,ha,la])
 all_goals(refine Gh.pure (.s (.lt (by simp))) (hΨ _ _ ⟨?_,rfl⟩);simp at *;simp[zii, *])
theorem Y6{α:Type}(q:α→Bool):∀(l:List α) (k:Nat),(ym q k l= -1∧l.find? q=none)∨∃i,ym q k l=((k+i:Nat):Int)∧∃h:i<l.length,l.find? q=some l[i]
 |[],k=> .inl ⟨rfl,rfl⟩
 |x::l,k=>by
  unfold ym;cases hk:q x with
  |true=>exact .inr ⟨0,by simp,by simp,by simp[hk]⟩
  |false=>
   rcases Y6 q l (k+1) with⟨h1,h2⟩|⟨i,h1,h2,h3⟩
   ·exact .inl ⟨by simpa using h1,by simp[hk,h2]⟩
   ·exact .inr ⟨i+1,by simp only[zvg,if_false];rw[h1];congr 1;omega,by simpa using h2,by simp[hk,h3]⟩
def Qt:Jo:=⟨0,⟨#[]⟩,0,0,0,[]⟩
def JE(l:List Jo)(id:ByteArray)(p of:Int):Jo×Int:=match l.find? (zdC of) with
 |none=>(Qt,3)
 |some j=>if¬(j.id==id)=true∨j.p≠p∨j.kind=2 then(Qt,3) else if l.any (zii of) then(Qt,4) else(j,0)
theorem ziu{g:XH}{i k:Nat}{l:List Jo}(h:qb g i k l)(hl:StoL l)(id:ByteArray)(p of:Int):Cl C (fun _=>False) 292 [.s (.ptr i 0 0),fs id,fi p,fi of] g fun u g'=>u= .tup [.agg (jd (JE l id p of).1),fi (JE l id p of).2]∧g'=g:=by
 obtain⟨w,hi,hk⟩:=h;have li:=zd hi;have lk:=zd hk;have hll:=hl.len;refine Cl.ip rfl (zuJ rfl) fun Ψ hΨ=> ?_;have bad:∀(e:Int) J,JE l id p of=(Qt,e)→Gh (fun _=>False) g Ψ (.tup [.agg [xi 0,xs ⟨#[]⟩,xi 0,xi 0,xi 0,.v .nils],fi e]) (g++J):=fun e J h=>Gh.pure (u':= .tup [.agg (jd Qt),fi e]) (.cons (.agg (.cons (.lt (by simp)) (.cons (.lt (by simp)) (.cons (.lt (by simp)) (.cons (.lt (by simp)) (.cons (.lt (by simp)) (.cons .nil .nil))))))) (.cons .i .nil)) (hΨ _ _ ⟨by rw[h],rfl⟩);simp[hi,hk,li,lk];refine zb.go0 (Ys (q:=zdC of) (f:=325) rfl qC (by decide) (RdX.sl qC hk).app (by omega) (.inr ⟨g.length+2,326,[],[.s (.ptr g.length 0 0)],rfl,by simp,fun x _=>keyJP x of (by simp)⟩)) ?_
 have h0:JE l id p of=match l.find? (zdC of) with
  |none=>(Qt,3)
  |some j=>if¬(j.id==id)=true∨j.p≠p∨j.kind=2 then(Qt,3) else if l.any (zii of) then(Qt,4) else(j,0):=rfl
 rcases Y6 (zdC of) l 0 with⟨e1,e2⟩|⟨n,e1,hn,e2⟩
 ·rw[e2] at h0;simp[e1];exact bad 3 _ h0
 rw[zvv] at e1;rw[e2] at h0;simp only at h0;obtain⟨a1,a2,a3⟩:=atX qC hn;have c1:=a3 1 (by decide);have c2:=a3 2 (by decide);have c3:=a3 3 (by decide);generalize l[n]=j at *;simp[jd] at c1 c2 c3;simp[e1,hi,hk,li,lk,hn,c1,c2,c3,y0,show¬(n:Int)<0 by omega];have K:(∀J,(¬(j.id==id)=true∨j.p≠p∨j.kind=2)→Gh (fun _=>False) g Ψ (.tup [.agg [xi 0,xs ⟨#[]⟩,xi 0,xi 0,xi 0,.v .nils],fi 3]) (g++J)):=fun J h=>bad 3 J (by rw[h0,zuT h]);refine zc (fun k1=> ?_) (fun k1=> ?_)
 rotate_left
 ·simp at k1;simp;exact K _ (.inl (by simpa[z2] using k1))
 simp at k1;simp[hi,hk,li,lk,hn,c1,c2,c3];refine zc (fun k2=> ?_) (fun k2=> ?_)
 ·simp at k2;simp;exact K _ (.inr (.inl k2))
 simp at k2;simp[hi,hk,li,lk,hn,c1,c2,c3];refine zc (fun k3=> ?_) (fun k3=> ?_)
 ·simp at k3;simp;exact K _ (.inr (.inr k3))
 simp at k3;rw[zuV (by simp[k1,k2,k3,z2])] at h0;simp[hi,hk,li,lk];refine zb.go0 (Qv (q:=zii of) (f:=327) (fi':=325) rfl rfl qC (by decide) (RdX.sl qC hk).app (by omega) (.inr ⟨g.length+3,328,[],[.s (.ptr g.length 0 0)],rfl,by simp,fun x _=>revJP x of (by simp)⟩)) ?_;simp;refine zc (fun k4=> ?_) (fun k4=> ?_)
 ·rw[zuT (by simpa using k4)] at h0;simp;exact bad 4 _ h0
 ·rw[zuV (by simp[k4])] at h0;simp[hi,hk,li,lk,hn,a1,a2,jd];exact Gh.pure (u':= .tup [.agg (jd j),fi 0]) (.cons (.agg (.lts (zfW j _))) (.cons .i .nil)) (hΨ _ _ ⟨by rw[h0],rfl⟩)
def zd6(a b:List Li):Bool:=QY (fun x y=>x.a==y.a&&x.n==y.n) a b
theorem zte{g:XH}{u v:XV}{a b:List Li}(ra:RdX g 189 2 jy u a)(rb:RdX g 189 2 jy v b)(hl:a.length≤1000):Cl C (fun _=>False) 294 [.s u,.s v] g fun r g'=>r=fb (zd6 a b)∧g'=g:=
 ztf (o:=[(0,0),(1,0)]) rfl yW (by decide) (fun x y=>by simp[jy,unV,jS,Y0];generalize(x.a==y.a)=p;generalize(x.n==y.n)=q;cases p<;>cases q<;>rfl) ra rb (by omega)
def zgl(l:List Jo)(id:ByteArray)(p kind of:Int)(ls:List Li):Int:=
 if kind=2 then(if(JE l id p of).2≠0 then(JE l id p of).2 else if¬yo ls=true then 2 else if¬zd6 ls (yc (JE l id p of).1.l)=true then 2 else 0)
 else if¬yo ls=true then 2 else 0
theorem zoA{l:List Jo}(hl:StoL l)(id:ByteArray)(p of:Int):(JE l id p of).1.l.length≤20:=by
 unfold JE;split
 ·simp[Qt]
 ·rename_i j hj;have:=hl.l j (zv0 hj);split
  ·simp[Qt]
  ·split
   ·simp[Qt]
   ·exact this
theorem zis{g:XH}{i k:Nat}{l:List Jo}(h:qb g i k l)(hl:StoL l)(id:ByteArray)(p kind of:Int){v:XV}{ls:List Li}(hr:RdX g 189 2 jy v ls)(hls:ls.length≤1000):Cl C (fun _=>False) 227 [.s (.ptr i 0 0),fs id,fi p,fi kind,fi of,.s v] g fun u g'=>u=fi (zgl l id p kind of ls)∧g'=g:=by
 refine Cl.ip rfl (zuJ rfl) fun Ψ hΨ=> ?_;have hrl:=zoA hl id p of
 have h0:zgl l id p kind of ls=if kind=2 then(if(JE l id p of).2≠0 then(JE l id p of).2 else if¬yo ls=true then 2 else if¬zd6 ls (yc (JE l id p of).1.l)=true then 2 else 0)
  else if¬yo ls=true then 2 else 0:=rfl
 simp;refine zc (fun k1=> ?_) (fun k1=> ?_)
 ·simp at k1;rw[zuT k1] at h0;simp[k1];refine zb.go0 (ziu h hl id p of) ?_;generalize JE l id p of=rv at *;simp[jd];refine zc (fun k2=> ?_) (fun k2=> ?_)
  ·simp at k2;rw[zuT k2] at h0;simp;exact Gh.pure .i (hΨ _ _ ⟨by rw[h0],rfl⟩)
  simp at k2;rw[zuV (by simpa using k2)] at h0;simp;refine zb.go0 (J3 (RdX.lst _ rv.1.l) (by omega)) ?_;simp;refine zb.go0 (zaO hr.app hls) ?_;cases k3:yo ls with
  |false=>
   rw[zuT (by simp[k3])] at h0;simp;exact Gh.pure .i (hΨ _ _ ⟨by rw[h0],rfl⟩)
  |true=>
   rw[zuV (by simp[k3])] at h0;simp[k1];refine zb.go0 (zte hr.app (RdX.lst _ (yc rv.1.l)) hls) ?_;simp;refine zc (fun k4=> ?_) (fun k4=> ?_)
   ·rw[zuV (by simp[k4])] at h0;simp;exact Gh.pure .i (hΨ _ _ ⟨by rw[h0],rfl⟩)
   ·rw[zuT (by simp[k4])] at h0;simp;exact Gh.pure .i (hΨ _ _ ⟨by rw[h0],rfl⟩)
 ·simp at k1;rw[zuV k1] at h0;simp;refine zb.go0 (zaO hr hls) ?_;cases k3:yo ls with
  |false=>
   rw[zuT (by simp[k3])] at h0;simp;exact Gh.here (hΨ _ _ ⟨by rw[h0],rfl⟩)
  |true=>
   rw[zuV (by simp[k3])] at h0;simp[show(kind==2)=false by simpa using k1];exact Gh.here (hΨ _ _ ⟨by rw[h0],rfl⟩)
def Zo(l:List Jo)(id:ByteArray)(ls:List Li):Bool:=ls.all fun x=>za (wr (zcR l id x.a 399+x.n))
def y9(l:List Jo)(id:ByteArray)(p kind of:Int)(ls:List Li):Int×Int×List Jo:=
 if id.size=0∨¬zl p=true∨(kind≠1∧kind≠2)∨(kind=1∧of≠0) then(0,1,l)
 else if zgl l id p kind of ls≠0 then(0,zgl l id p kind of ls,l)
 else if 200≤l.length then(0,5,l)
 else if¬Zo l id ls=true then(0,6,l)
 else((l.length:Int)+1,0,l++[⟨(l.length:Int)+1,id,p,kind,of,ls⟩])
def zj2(g:XH)(i k w:Nat)(l:List Jo):XH:=(g.set k (.own w 184 6 (l.flatMap jd))).set i (.own 0 175 1 [.sl k w 0 l.length])
theorem qb.same{g:XH}{i k:Nat}{l:List Jo}(h:qb g i k l):∃w,g=zj2 g i k w l:=by obtain⟨w,h1,h2⟩:=h;exact⟨w,by unfold zj2;rw[yZ h2,yZ h1]⟩
theorem zdE{l:List Jo}{id:ByteArray}{p kind of:Int}{ls:List Li}(h:zgl l id p kind of ls=0):yo ls=true:=by
 unfold zgl at h;cases hc:yo ls with
 |true=>rfl
 |false=>
  rw[hc] at h;split at h
  ·split at h
   ·rename_i k;exact absurd h k
   ·simp at h
  ·simp at h
theorem Q6{ls:List Li}(h:yo ls=true):ls.length≤20:=by simp[yo] at h;exact h.1.1
theorem zrx{g:XH}{i k:Nat}{l:List Jo}(h:qb g i k l)(hne:i≠k)(hl:StoL l)(id:ByteArray)(p kind of:Int){v:XV}{ls:List Li}(hr:v=zjk ls)(hls:ls.length≤1000):Cl C (fun x=>x=i∨x=k) 152 [.s (.ptr i 0 0),fs id,fi p,fi kind,fi of,.s v] g fun u g'=>u= .tup [fi (y9 l id p kind of ls).1,fi (y9 l id p kind of ls).2.1]∧∃w,g'=zj2 g i k w (y9 l id p kind of ls).2.2:=by
 obtain⟨w0,he⟩:=h.same;have hP:=h;subst hr;obtain⟨w,hi,hk⟩:=h;have li:=zd hi;have lk:=zd hk;have hll:=hl.len;have hlen:(l.flatMap jd).length=l.length*6:=zf qC l;refine Cl.ip rfl (zuJ rfl) fun Ψ hΨ=> ?_;have bad:∀(e:Int) J,y9 l id p kind of ls=(0,e,l)→Gh (fun x=>x=i∨x=k) g Ψ (.tup [fi 0,fi e]) (g++J):=fun e J h=>Gh.pure (.t2 .i .i) (hΨ _ _ ⟨by rw[h],w0,by rw[h];exact he⟩);have bad0:∀(e:Int),y9 l id p kind of ls=(0,e,l)→Gh (fun x=>x=i∨x=k) g Ψ (.tup [fi 0,fi e]) g:=fun e h=>by simpa using bad e [] h
 by_cases h1:id.size=0
 ·have h1':id.toList.isEmpty=true:=by rw[ye];exact zv6 h1
  simp[h1'];exact bad0 1 (by unfold y9;rw[zuT (.inl h1)])
 have h1':id.toList.isEmpty=false:=by rw[ye];exact zv7 h1
 simp[h1'];refine zb.pure (Zh ..) ?_;cases h2:zl p with
 |false=>
  simp;exact bad0 1 (by unfold y9;rw[zuT (.inr (.inl (by simp[h2])))])
 |true=>
 by_cases h3:kind≠1∧kind≠2
 ·simp[show(kind !=1)=true by simpa using h3.1,show(kind !=2)=true by simpa using h3.2];exact bad0 1 (by unfold y9;rw[zuT (.inr (.inr (.inl h3)))])
 by_cases h4:kind=1∧of≠0
 ·obtain⟨rfl,h4⟩:=h4;simp[show(of !=0)=true by simpa using h4];exact bad0 1 (by unfold y9;rw[zuT (.inr (.inr (.inr ⟨rfl,h4⟩)))])
 have hK:¬(id.size=0∨¬zl p=true∨(kind≠1∧kind≠2)∨(kind=1∧of≠0)):=by
  rintro(h|h|h|h)
  ·exact h1 h
  ·exact h h2
  ·exact h3 h
  ·exact h4 h
 have e0:y9 l id p kind of ls=if zgl l id p kind of ls≠0 then(0,zgl l id p kind of ls,l)
  else if 200≤l.length then(0,5,l)
  else if¬Zo l id ls=true then(0,6,l)
  else((l.length:Int)+1,0,l++[⟨(l.length:Int)+1,id,p,kind,of,ls⟩]):=by unfold y9;rw[zuV hK]
 have h3':(kind=1∧of=0)∨kind=2:=by omega
 clear hK h3 h4;rcases h3' with⟨rfl,rfl⟩|rfl
 ·simp;refine zb.go0 (zis hP hl id p _ _ (RdX.lst _ ls) hls) ?_;simp;refine zc (fun k1=> ?_) (fun k1=> ?_)
  ·simp at k1;rw[zuT k1] at e0;simp;exact bad0 _ e0
  simp at k1;have hc20:=Q6 (zdE k1);rw[zuV (by simpa using k1)] at e0;simp[hi,li];refine zc (fun k2=> ?_) (fun k2=> ?_)
  ·simp at k2;rw[zuT (by omega)] at e0;simp;exact bad0 _ e0
  simp at k2;rw[zuV (by omega)] at e0;simp;refine Lp.genU (σ:=Unit) ls.length (fun q _=>[(59,fi q)]) (fun _ _=>g) (fun q _=>Zo l id (ls.take q)=true) () (by decide) rfl (by simp) rfl (by simp[Zo]) ?_ ?_
  ·rintro q hq _ hov hlt N hN;obtain⟨a1,a2,_⟩:=atX yW hq;have e3:Zo l id (ls.take (q+1))=(Zo l id (ls.take q)&&za (wr (zcR l id ls[q].a 399+ls[q].n))):=zap hq;have hmem:=zvi hq;have hno:za (wr (zcR l id ls[q].a 399+ls[q].n))=false→Zo l id ls=false:=fun h=>by
    unfold Zo;rw[zxz];exact⟨_,hmem,by simp[h]⟩
   generalize ls[q]=x at *;simp[l152_0,hq,a1,a2,jy];refine zy 7 [16] (fun _=>False) (by decide) (by decide) ?_;simp only[zu8,zvE,zvj,zve];simp;refine zb.go0 (zed hP.app hl id x.a 399) ?_;simp;refine zb.pure (z8 ..) ?_;simp;refine zc (fun k3=> ?_) (fun k3=> ?_)
   ·simp[yB hq (by omega)];exact Qb () hN (by rw[e3,hov,show za (wr (zcR l id x.a 399+x.n))=true from k3];rfl) (by simp) (by simpa using hlt)
   ·rw[zuT (by simp[hno k3])] at e0;simp;exact bad 6 _ e0
  ·rintro _ hov;rw[zvd] at hov;rw[zuV (by simp[hov])] at e0;simp[l152_0,hi,li,ze (n:=(l.length:Int)+1) (by omega) (by omega)];refine zy 13 [0,1,2,3,4,5,17] (fun _=>False) (by decide) (by decide) ?_;simp only[zu8,zvE,zvj,zve];have hO:=fun g=>zjh (g:=g) (j:=⟨(l.length:Int)+1,id,p,1,0,ls⟩) (by simp only;omega);simp[jd] at hO;simp[hi,li];refine zb.go0 (hO _) ?_;have g1:∀x,(g.set k x)[i]? =g[i]? :=fun x=>zH hne.symm;simp[hi,hk,li,lk,hlen,g1,show(l.length+1)*72≤140737488355328 by omega];refine zcB (by simp[lvO]) (by simp[lvO,lk]) (by simp) (hΨ _ _ ⟨by rw[e0],w+1,?_⟩);rw[e0];simp[zj2,jd]
 ·simp;refine zb.go0 (zis hP hl id p _ _ (RdX.lst _ ls) hls) ?_;simp;refine zc (fun k1=> ?_) (fun k1=> ?_)
  ·simp at k1;rw[zuT k1] at e0;simp;exact bad0 _ e0
  simp at k1;have hc20:=Q6 (zdE k1);rw[zuV (by simpa using k1)] at e0;simp[hi,li];refine zc (fun k2=> ?_) (fun k2=> ?_)
  ·simp at k2;rw[zuT (by omega)] at e0;simp;exact bad0 _ e0
  simp at k2;rw[zuV (by omega)] at e0;simp;refine Lp.genU (σ:=Unit) ls.length (fun q _=>[(59,fi q)]) (fun _ _=>g) (fun q _=>Zo l id (ls.take q)=true) () (by decide) rfl (by simp) rfl (by simp[Zo]) ?_ ?_
  ·rintro q hq _ hov hlt N hN;obtain⟨a1,a2,_⟩:=atX yW hq;have e3:Zo l id (ls.take (q+1))=(Zo l id (ls.take q)&&za (wr (zcR l id ls[q].a 399+ls[q].n))):=zap hq;have hmem:=zvi hq;have hno:za (wr (zcR l id ls[q].a 399+ls[q].n))=false→Zo l id ls=false:=fun h=>by
    unfold Zo;rw[zxz];exact⟨_,hmem,by simp[h]⟩
   generalize ls[q]=x at *;simp[l152_0,hq,a1,a2,jy];refine zy 7 [16] (fun _=>False) (by decide) (by decide) ?_;simp only[zu8,zvE,zvj,zve];simp;refine zb.go0 (zed hP.app hl id x.a 399) ?_;simp;refine zb.pure (z8 ..) ?_;simp;refine zc (fun k3=> ?_) (fun k3=> ?_)
   ·simp[yB hq (by omega)];exact Qb () hN (by rw[e3,hov,show za (wr (zcR l id x.a 399+x.n))=true from k3];rfl) (by simp) (by simpa using hlt)
   ·rw[zuT (by simp[hno k3])] at e0;simp;exact bad 6 _ e0
  ·rintro _ hov;rw[zvd] at hov;rw[zuV (by simp[hov])] at e0;simp[l152_0,hi,li,ze (n:=(l.length:Int)+1) (by omega) (by omega)];refine zy 13 [0,1,2,3,4,5,17] (fun _=>False) (by decide) (by decide) ?_;simp only[zu8,zvE,zvj,zve];have hO:=fun g=>zjh (g:=g) (j:=⟨(l.length:Int)+1,id,p,2,of,ls⟩) (by simp only;omega);simp[jd] at hO;simp[hi,li];refine zb.go0 (hO _) ?_;have g1:∀x,(g.set k x)[i]? =g[i]? :=fun x=>zH hne.symm;simp[hi,hk,li,lk,hlen,g1,show(l.length+1)*72≤140737488355328 by omega];refine zcB (by simp[lvO]) (by simp[lvO,lk]) (by simp) (hΨ _ _ ⟨by rw[e0],w+1,?_⟩);rw[e0];simp[zj2,jd]
theorem zkx{W:Nat→Prop}{g J:XH}{k t z T Z:Nat}{cs cs':List XV}{Ψ:XF→XH→Prop}(hJ:J[k]? =some (.own 0 t z cs))(hc:FzVs g.length J [some k,none] [.own 0 t z cs',.own 0 T Z []] cs cs')(h:Ψ (.s (.ptr g.length 0 0)) (g++[.own 0 t z cs',.own 0 T Z []])):Gh W g Ψ (.s (.ptr (g.length+k) 0 0)) (g++J):=by
 refine Gh.keep [some k,none] [.own 0 t z cs',.own 0 T Z []] ⟨rfl,rfl,fun i o e=> .inl ⟨e,.inl e⟩,rfl,?_,?_⟩ (.s (.kptr (j:=0) (k:=k) rfl)) (by rw[zwe];exact h)
 ·intro j j' q e e'
  match j,j' with
  |0,0=>rfl
  |0,1=>simp at e'
  |0,n+2=>simp at e'
  |1,_=>simp at e
  |n+2,_=>simp at e
 ·intro j o e
  match j with
  |0=>
   simp only[zvC,zuI] at e;exact .inr ⟨k,0,t,z,cs,cs',rfl,hJ,e.symm,hc⟩
  |1=>
   simp only[zvV,zvC,zuI] at e;exact .inl ⟨rfl,T,Z,e.symm⟩
  |n+2=>simp at e
theorem zkz{W S:Nat→Prop}{g G:XH}{Ψ:XF→XH→Prop}{u:XF}(h:Upd S g G)(hu:lvF g.length u)(hp:Ψ u G):Gh W g Ψ u G:=by
 have:=qX (W:=W) (J:=[]) h hu hp
 rwa [zvl] at this
theorem zui(g:XH):Cl C (fun _=>False) 38 [] g fun u g'=>u= .s (.ptr g.length 0 0)∧g'=g++[.own 0 145 1 [.sl (g.length+1) 0 0 0],.own 0 140 4 []]:=by refine Cl.ip rfl (zuJ rfl) fun Ψ hΨ=> ?_;simp;exact zkx (k:=0) (T:=140) (Z:=4) rfl (.cons (.gh (j:=1) rfl rfl) .nil) (hΨ _ _ ⟨rfl,rfl⟩)
theorem zuf(g:XH):Cl C (fun _=>False) 39 [] g fun u g'=>u= .s (.ptr g.length 0 0)∧g'=g++[.own 0 175 1 [.sl (g.length+1) 0 0 0],.own 0 184 6 []]:=by refine Cl.ip rfl (zuJ rfl) fun Ψ hΨ=> ?_;simp;exact zkx (k:=0) (T:=184) (Z:=6) rfl (.cons (.gh (j:=1) rfl rfl) .nil) (hΨ _ _ ⟨rfl,rfl⟩)
theorem zkw{W:Nat→Prop}{g J:XH}{k w t z:Nat}{cs cs':List XV}{Ψ:XF→XH→Prop}(hJ:J[k]? =some (.own w t z cs))(hc:FzVs g.length J [some k] [.own w t z cs'] cs cs')(h:Ψ (.s (.ptr g.length w 0)) (g++[.own w t z cs'])):Gh W g Ψ (.s (.ptr (g.length+k) w 0)) (g++J):=by
 refine Gh.keep [some k] [.own w t z cs'] ⟨rfl,rfl,fun i o e=> .inl ⟨e,.inl e⟩,rfl,?_,?_⟩ (.s (.kptr (j:=0) (k:=k) rfl)) (by rw[zwe];exact h)
 ·intro j j' k e e';have h1:=(zuN.1 e).1;have h2:=(zuN.1 e').1;simp at h1 h2;omega
 ·intro j o e;have h1:=(zuN.1 e).1;obtain rfl:j=0:=by simpa using h1
  simp only[zvC,zuI] at e;exact .inr ⟨k,w,t,z,cs,cs',rfl,hJ,e.symm,hc⟩
theorem zrA{g:XH}{i k:Nat}{t:List Rw}(ht:qO 145 140 g i k t)(hl:t.length≤1000):Cl C (fun _=>False) 94 [.s (.ptr i 0 0)] g (qk g 140 4 t.length (t.flatMap yT)):=by obtain⟨w,hi,hk⟩:=ht;have li:=zd hi;refine Cl.ip rfl (zuJ rfl) fun Ψ hΨ=> ?_;simp[hi,li];refine zb.go (Y2 (z:=4) rfl rfl rfl qq (Nat.succ_ne_zero _) (RdX.sl qq hk) (fun a=>by simp[yT]) (by omega)) (fun _ _ h=>h.elim) ?_;rintro u g' ⟨w1,rfl,rfl⟩;simp;exact Gh.here (hΨ _ _ ⟨w1,rfl,rfl⟩)
theorem zoY{g:XH}{i k:Nat}{t:List Rw}(ht:qO 145 140 g i k t)(hl:t.length≤1000):Cl C (fun _=>False) 41 [.s (.ptr i 0 0)] g fun u g'=>u= .s (.ptr (g.length+1) 0 0)∧∃w,g'=g++[.own w 140 4 (t.flatMap yT),.own 0 145 1 [.sl g.length w 0 t.length]]:=by refine Cl.ip rfl (zuJ rfl) fun Ψ hΨ=> ?_;simp;refine zb.go (zrA ht hl) (fun _ _ h=>h.elim) ?_;rintro u g' ⟨w1,rfl,rfl⟩;simp;exact Gh.here (hΨ _ _ ⟨rfl,w1,rfl⟩)
theorem zoS{g:XH}{i k:Nat}{l:List Jo}(h:qb g i k l)(hl:StoL l):Cl C (fun _=>False) 42 [.s (.ptr i 0 0)] g fun u g'=>u= .s (.ptr (g.length+1) 0 0)∧∃w,g'=g++[.own w 184 6 (l.flatMap jd),.own 0 175 1 [.sl g.length w 0 l.length]]:=by refine Cl.ip rfl (zuJ rfl) fun Ψ hΨ=> ?_;simp;refine zb.go (zcg h hl) (fun _ _ h=>h.elim) ?_;rintro u g' ⟨w1,rfl,rfl⟩;simp;exact Gh.here (hΨ _ _ ⟨rfl,w1,rfl⟩)
theorem ztx(g:XH):Cl C (fun _=>False) 132 [] g fun u g'=>u= .s (lpV [])∧g'=g:=by refine Cl.ip rfl (zuJ rfl) fun Ψ hΨ=> ?_;simp;exact Gh.pure (u':= .s (lpV [])) (.s (.ptr (t:=295) (z:=1) (zuQ _) (fun j=>by simp) (by simp) (by simp) (.cons .nil .nil))) (hΨ _ _ ⟨rfl,rfl⟩)
abbrev qc(b:Bool):List XV:=[xb b]
theorem Zk(b:Bool):(qc b).length=1:=rfl
@[simp] theorem encO_lvs(m:Nat)(l:List Bool):zr m (l.flatMap qc):=zQ (fun a=>by simp[qc]) l
def JH(g:XH)(i k:Nat)(first:Int)(t:List Bool):Prop:=∃w junk,(∀m,zr m junk)∧g[i]? =some (.own 0 257 2 [xi first,.sl k w 0 t.length])∧g[k]? =some (.own w 4 1 (t.flatMap qc++junk))
structure StaL(first:Int)(t:List Bool):Prop where
 p:zl first=true
 lo:1≤t.length
 hi:t.length≤500
theorem JH.app{g J:XH}{i k:Nat}{f:Int}{l:List Bool}(h:JH g i k f l):JH (g++J) i k f l:=by obtain⟨w,junk,h0,h1,h2⟩:=h;exact⟨w,junk,h0,by rw[zq (zd h1)];exact h1,by rw[zq (zd h2)];exact h2⟩
def yt(f:Int)(t:List Bool):Int:=f+(t.length:Int)-1
theorem zue(g:XH)(f:Int):Cl C (fun _=>False) 131 [fi f] g fun u g'=>if zl f then u= .tup [.s (.ptr (g.length+1) 0 0),fi 0]∧g'=g++[.own 0 4 1 [xb false],.own 0 257 2 [xi f,.sl g.length 0 0 1]] else u= .tup [.s (.v .nilp),fi 1]∧g'=g:=by
 refine Cl.ip rfl (zuJ rfl) fun Ψ hΨ=> ?_;simp;refine zb.pure (Zh ..) ?_;cases hp:zl f with
 |true=>
  simp[rep];exact Gh.here (hΨ _ _ (by rw[hp];exact⟨rfl,rfl⟩))
 |false=>
  simp;exact Gh.here (hΨ _ _ (by rw[hp];exact⟨rfl,rfl⟩))
theorem zrw{g:XH}{i k:Nat}{f:Int}{t:List Bool}(h:JH g i k f t)(hl:StaL f t):Cl C (fun _=>False) 172 [.s (.ptr i 0 0)] g fun u g'=>u=fi (yt f t)∧g'=g:=by obtain⟨w,junk,h0,hi,hk⟩:=h;have li:=zd hi;have h1:=hl.p;have h2:=hl.hi;have h3:=hl.lo;simp[zl] at h1;refine Cl.ip rfl (zuJ rfl) fun Ψ hΨ=> ?_;simp[hi,li,ze (n:=f+(t.length:Int)) (by omega) (by omega),ze (n:=f+(t.length:Int)-1) (by omega) (by omega)];exact Gh.here (hΨ _ _ ⟨rfl,rfl⟩)
theorem zcL{g:XH}{i k:Nat}{f:Int}{t:List Bool}(h:JH g i k f t)(hl:StaL f t):Cl C (fun _=>False) 98 [.s (.ptr i 0 0)] g fun u g'=>u= .tup [fi (if zl (yt f t) then yt f t else 0),fb (zl (yt f t))]∧g'=g:=by
 refine Cl.ip rfl (zuJ rfl) fun Ψ hΨ=> ?_;simp;refine zb.go0 (zrw h hl) ?_;simp;refine zb.pure (Zh ..) ?_;cases hp:zl (yt f t) with
 |true=>
  simp;exact Gh.here (hΨ _ _ ⟨by rw[hp];rfl,rfl⟩)
 |false=>
  simp;exact Gh.here (hΨ _ _ ⟨by rw[hp];rfl,rfl⟩)
def zgV(f:Int)(t:List Bool):Int×List Bool:=if zl (yt f t) then(0,t.set (t.length-1) true) else(8,t)
theorem zoR{g:XH}{i k:Nat}{f:Int}{t:List Bool}(h:JH g i k f t)(hne:i≠k)(hl:StaL f t):Cl C (fun x=>x=k) 99 [.s (.ptr i 0 0)] g fun u g'=>u=fi (zgV f t).1∧JH g' i k f (zgV f t).2∧Upd (fun x=>x=k) g g':=by
 have hP:=h;obtain⟨w,junk,h0,hi,hk⟩:=h;have li:=zd hi;have lk:=zd hk;have h2:=hl.hi;have h3:=hl.lo;refine Cl.ip rfl (zuJ rfl) fun Ψ hΨ=> ?_;simp;refine zb.go0 (zcL hP hl) ?_;unfold zgV at hΨ;cases hp:zl (yt f t) with
 |false=>
  rw[hp] at hΨ;simp;exact Gh.here (hΨ _ _ ⟨rfl,hP,Upd.refl⟩)
 |true=>
  rw[hp] at hΨ;have hn:t.length-1<t.length:=by omega
  have hs:=jT Zk (l:=t) (k:=t.length-1) hn (c:=0) (by decide) (v:=xb true) (x:=true) rfl junk;simp only[zxZ,zwe] at hs;have hlen:(t.flatMap qc).length=t.length:=by rw[zf Zk];omega
  have e1:((t.length:Int)-1).toNat=t.length-1:=by omega
  have ht0:¬t=[]:=fun e=>by rw[e] at h3;simp at h3
  simp[hi,li,hk,lk,ze (n:=(t.length:Int)-1) (by omega) (by omega),show(1:Int)≤t.length by omega,show(0:Int)≤(t.length:Int)-1 by omega,show(t.length:Int)-1<t.length by omega,e1,hs,hlen,ht0,show t.length-1+1≤t.length+junk.length by omega];have u:Upd (fun x=>x=k) g (g.set k (.own w 4 1 ((t.set (t.length-1) true).flatMap qc++junk))):=by refine Upd.refl.set (S:=fun x=>x=k) rfl ?_;simp[lvO,h0]
  refine zkz u (by simp) (hΨ _ _ ⟨rfl,⟨w,junk,h0,?_,?_⟩,u⟩)
  ·rw[zH hne.symm];simp[hi]
  ·rw[yn lk];rfl
def zfM(f:Int)(t:List Bool):Int×List Bool:=if zl (yt f t) then(0,t++[false]) else(8,t)
theorem zoQ{g:XH}{i k:Nat}{f:Int}{t:List Bool}(h:JH g i k f t)(hne:i≠k)(hl:StaL f t):Cl C (fun x=>x=i∨x=k) 154 [.s (.ptr i 0 0)] g fun u g'=>u=fi (zfM f t).1∧JH g' i k f (zfM f t).2∧Upd (fun x=>x=i∨x=k) g g':=by
 have hP:=h;obtain⟨w,junk,h0,hi,hk⟩:=h;have li:=zd hi;have lk:=zd hk;have h2:=hl.hi;have h3:=hl.lo;refine Cl.ip rfl (zuJ rfl) fun Ψ hΨ=> ?_;simp;refine zb.go0 (zcL hP hl) ?_;unfold zfM at hΨ;cases hp:zl (yt f t) with
 |false=>
  rw[hp] at hΨ;simp;exact Gh.here (hΨ _ _ ⟨rfl,hP,Upd.refl⟩)
 |true=>
  rw[hp] at hΨ;obtain⟨cs,hcs⟩:∃cs,cs=t.flatMap qc++junk:=⟨_,rfl⟩
  have hlen:cs.length=t.length+junk.length:=by rw[hcs,zuR,zf Zk];omega
  have hcut:(if t.length=cs.length then cs else cs.take t.length)=t.flatMap qc:=by
   have e:cs.take t.length=t.flatMap qc:=by rw[hcs,show t.length=(t.flatMap qc).length by rw[zf Zk];omega,zwc];rfl
   split
   ·rename_i h;rw[←e,zvG (by omega)]
   ·exact e
  have g1:∀x,(g.set k x)[i]? =g[i]? :=fun x=>zH hne.symm;rw[←hcs] at hk;simp[rep,hi,li,hk,lk,g1,hcut,show t.length≤cs.length by omega,show t.length+1≤140737488355328 by omega];have u:Upd (fun x=>x=i∨x=k) g ((g.set k (.own (w+1) 4 1 (t.flatMap qc++[xb false]))).set i (.own 0 257 2 [xi f,.sl k (w+1) 0 (t.length+1)])):=(Upd.refl.set (.inr rfl) (by simp[lvO])).set (.inl rfl) (by simp[lvO,lk]);refine qX u (by simp) (hΨ _ _ ⟨rfl,⟨w+1,[],fun m=>by simp[zr],?_,?_⟩,u⟩)
  ·rw[yn (by simpa using li)];simp
  ·rw[zH hne,yn lk];simp
def Yk(t:List Bool):Int×List Bool:=if t.length=1 then(3,t) else if t[t.length-1]? =some true then(8,t) else(0,t.take (t.length-1))
theorem zmy{g:XH}{i k:Nat}{f:Int}{t:List Bool}(h:JH g i k f t)(hne:i≠k)(hl:StaL f t):Cl C (fun x=>x=i) 155 [.s (.ptr i 0 0)] g fun u g'=>u=fi (Yk t).1∧JH g' i k f (Yk t).2∧Upd (fun x=>x=i) g g':=by
 have hP:=h;obtain⟨w,junk,h0,hi,hk⟩:=h;have li:=zd hi;have lk:=zd hk;have h2:=hl.hi;have h3:=hl.lo;refine Cl.ip rfl (zuJ rfl) fun Ψ hΨ=> ?_;unfold Yk at hΨ;simp[hi,li,ze (n:=(t.length:Int)-1) (by omega) (by omega)];refine zc (fun k1=> ?_) (fun k1=> ?_)
 ·simp at k1;rw[zuT (by omega)] at hΨ;simp;exact Gh.here (hΨ _ _ ⟨rfl,hP,Upd.refl⟩)
 simp at k1;rw[zuV (by omega)] at hΨ;have hn:t.length-1<t.length:=by omega
 have e1:((t.length:Int)-1).toNat=t.length-1:=by omega
 have ha:=(atX Zk hn).2.2 0 (by decide);have hfl:(t.flatMap qc).length=t.length:=by rw[zf Zk];omega
 have hb:(t.flatMap qc++junk)[t.length-1]? =some (xb t[t.length-1]):=by rw[zuO (by omega)];simpa[qc] using ha
 have hg:t[t.length-1]? =some t[t.length-1]:=zuY hn;rw[hg] at hΨ;have hbl:t.length-1≤(t.flatMap qc++junk).length:=by simp[hfl];omega
 have hcn:¬t.flatMap qc++junk=[]:=fun e=>by rw[e] at hb;simp at hb
 have hcsv:∀m,zr m (t.flatMap qc++junk):=fun m=>by simp[h0]
 have hpre:t.flatMap qc++junk=(t.take (t.length-1)).flatMap qc++(xb t[t.length-1]::junk):=by
  have e:=zu3 hn;rw[zvG (by omega)] at e;have e2:t.flatMap qc=(t.take (t.length-1)).flatMap qc++[xb t[t.length-1]]:=by
   conv=>lhs;rw[e]
   rw[zvq];rfl
  rw[e2,zu9];rfl
 generalize hcs:t.flatMap qc++junk=cs at *;simp[hi,li,hk,lk,e1,hb,show(1:Int)≤t.length by omega,show(0:Int)≤(t.length:Int)-1 by omega,show(t.length:Int)-1<t.length by omega];generalize t[t.length-1]=z at *;cases z with
 |true=>
  simp;exact Gh.here (hΨ _ _ ⟨rfl,hP,Upd.refl⟩)
 |false=>
  simp[hi,li,hk,lk,e1,hcn,hbl,show(1:Int)≤t.length by omega,show(0:Int)≤(t.length:Int)-1 by omega];have u:Upd (fun x=>x=i) g (g.set i (.own 0 257 2 [xi f,.sl k w 0 (t.length-1)])):=by refine Upd.refl.set (S:=fun x=>x=i) rfl ?_;simp[lvO,lk]
  refine zkz u (by simp) (hΨ _ _ ⟨by simp,⟨w,xb false::junk,fun m=>by simp[zr,h0],?_,?_⟩,u⟩)
  ·rw[yn li];simp
  ·rw[zH hne];simp[hk,hpre]
theorem zsY{g:XH}{v:XV}{l:List Bool}(r:RdX g 4 1 qc v l)(hl:l.length≤1000000):Cl C (fun _=>False) 169 [.s v] g (qk g 4 1 l.length (l.flatMap qc)):=
 Y2 (z:=1) rfl rfl rfl Zk (by decide) r (fun a=>by simp[qc]) (by omega)
theorem ziq{g:XH}{i k:Nat}{f:Int}{t:List Bool}(h:JH g i k f t)(hl:StaL f t):Cl C (fun _=>False) 95 [.s (.ptr i 0 0)] g fun u g'=>u= .s (.ptr (g.length+1) 0 0)∧∃w,g'=g++[.own w 4 1 (t.flatMap qc),.own 0 257 2 [xi f,.sl g.length w 0 t.length]]:=by obtain⟨w,junk,h0,hi,hk⟩:=h;have li:=zd hi;have lk:=zd hk;have h2:=hl.hi;refine Cl.ip rfl (zuJ rfl) fun Ψ hΨ=> ?_;simp;refine zy 9 [0] (fun _=>False) (by decide) (by decide) ?_;simp only[zu8,zvE,zvj,zve];simp[hi,li];refine zb.go (zsY (RdX.junk Zk hk) (by omega)) (fun _ _ h=>h.elim) ?_;rintro u g' ⟨w1,rfl,rfl⟩;simp;exact Gh.here (hΨ _ _ ⟨rfl,w1,rfl⟩)
def j5(x:Pa):List XV:=[xs x.s,xs x.b,xi x.n]
theorem yg(x:Pa):(j5 x).length=3:=rfl
@[simp] theorem Qx(x:Pa)(m:Nat):zr m (j5 x):=by simp[j5]
@[simp] theorem zhf(m:Nat)(l:List Pa):zr m (l.flatMap j5):=zQ (fun a=>Qx a m) l
abbrev zbw(l:List Pa):XV:= .lst 171 3 l.length (l.flatMap j5)
def QM(g:XH)(i:Nat)(l:List Pa):Prop:=g[i]? =some (.own 0 177 1 [zbw l])
theorem QM.app{g J:XH}{i:Nat}{l:List Pa}(h:QM g i l):QM (g++J) i l:=by unfold QM at h⊢;rw[zq (zd h)];exact h
theorem zs3(g:XH):Cl C (fun _=>False) 40 [] g fun u g'=>u= .s (.ptr g.length 0 0)∧g'=g++[.own 0 177 1 [zbw []]]:=by refine Cl.ip rfl (zuJ rfl) fun Ψ hΨ=> ?_;simp;exact zkw (k:=0) rfl (.cons .nil .nil) (hΨ _ _ ⟨rfl,rfl⟩)
theorem zcu{g:XH}{i:Nat}{l:List Pa}(h:QM g i l)(hl:l.length≤1000):Cl C (fun _=>False) 91 [.s (.ptr i 0 0)] g (qk g 171 3 l.length (l.flatMap j5)):=by have h1:g[i]? =_:=h;have li:=zd h1;refine Cl.ip rfl (zuJ rfl) fun Ψ hΨ=> ?_;simp[h1,li];refine zb.go (Y2 (enc:=j5) (z:=3) (l:=l) rfl rfl rfl yg (by decide) (RdX.lst g l) (fun a=>Qx a _) (by omega)) (fun _ _ h=>h.elim) ?_;rintro u g' ⟨w,rfl,rfl⟩;simp;exact Gh.here (hΨ _ _ ⟨w,rfl,rfl⟩)
theorem znl{g:XH}{i:Nat}{l:List Pa}(h:QM g i l)(hl:l.length≤1000):Cl C (fun _=>False) 43 [.s (.ptr i 0 0)] g fun u g'=>u= .s (.ptr g.length 0 0)∧g'=g++[.own 0 177 1 [zbw l]]:=by refine Cl.ip rfl (zuJ rfl) fun Ψ hΨ=> ?_;simp;refine zb.go (Fresh.frz (zcu h hl) (zhf _ _) (by rw[zf yg])) (fun _ _ h=>h.elim) ?_;rintro u g' ⟨rfl,rfl⟩;simp;exact zkw (k:=0) rfl (.lts (by simp)) (hΨ _ _ ⟨rfl,rfl⟩)
theorem zdD:∀(x y:List UInt8),Op.bytesLess x y=true∨Op.bytesLess y x=true∨x=y
 |[],[]=> .inr (.inr rfl)
 |[],_::_=> .inl (by simp[Op.bytesLess])
 |_::_,[]=> .inr (.inl (by simp[Op.bytesLess]))
 |a::x,b::y=>by
  simp only[Op.bytesLess];by_cases h1:a<b
  ·exact .inl (by simp[h1])
  by_cases h2:b<a
  ·exact .inr (.inl (by simp[h2]))
  obtain rfl:a=b:=by rw[UInt8.lt_iff_toNat_lt] at h1 h2;exact UInt8.toNat_inj.1 (by omega)
  rcases zdD x y with h|h|h
  ·exact .inl (by simp[h])
  ·exact .inr (.inl (by simp[h]))
  ·exact .inr (.inr (by rw[h]))
def cP(b:Pa):List SV:=[.str b.s,.str b.b,.int .i64 b.n]
theorem zkh(l:List Pa):(l.flatMap cP).map XV.v=l.flatMap j5:=by rw[zxn];rfl
theorem ltK_P(a b:Pa):ltK [0,1] (cP a) (cP b)=ltP a b:=by simp[ltK,cP,ltP,ltS,y0,z2]
theorem toList_inj{a b:ByteArray}(h:a.toList=b.toList):a=b:=by have:=y0 a b;rw[h] at this;simp at this;exact this
theorem zeY(a b:ByteArray):ltS a b=true∨ltS b a=true∨a=b:=by
 rcases zdD a.toList b.toList with h|h|h
 ·exact .inl h
 ·exact .inr (.inl h)
 ·exact .inr (.inr (toList_inj h))
def unP(a b:Pa):Prop:=¬(a.s=b.s∧a.b=b.b)
theorem zjm{a b:Pa}(h:unP a b):(ltP a b||ltP b a)=true:=by
 unfold unP at h;simp only[ltP,zvT,zuS];rcases zeY a.s b.s with h1|h1|h1
 ·exact .inl (.inl h1)
 ·exact .inr (.inl h1)
 ·have h2:¬a.b=b.b:=fun e=>h ⟨h1,e⟩;rcases zeY a.b b.b with h3|h3|h3
  ·exact .inl (.inr ⟨by simp[h1,z2],h3⟩)
  ·exact .inr (.inr ⟨by simp[h1,z2],h3⟩)
  ·exact absurd h3 h2
theorem Q9:∀{l:List Pa},l.Pairwise unP→jF ltP l=true
 |[],_=>rfl
 |x::l,h=>by obtain⟨h1,h2⟩:=zvh.1 h;simp only[jF,zuS,zva];exact⟨fun y hy=>zjm (h1 y hy),Q9 h2⟩
def jO(c:List Pa)(s b:ByteArray)(v:Int):List Pa:=let m:=c.filter fun x=> !Zn s b x
 if v=0 then m else m++[⟨s,b,v⟩]
def j0(c:List Pa)(s b:ByteArray)(n:Int):Int×List Pa:=
 if s.size=0∨b.size=0∨s=b∨¬za n=true then(1,c)
 else
  let v:=wr (Yh c s b+n)
  if v<0∨¬za v=true then(6,c)
  else if 8<(jO c s b v).length then(5,c) else(0,zu ltP (jO c s b v))
theorem za2{c:List Pa}(h:c.Pairwise unP)(s b:ByteArray)(v:Int):(jO c s b v).Pairwise unP:=by
 have h1:(c.filter fun x=> !Zn s b x).Pairwise unP:=h.sublist zwm;unfold jO;simp only;split
 ·exact h1
 ·refine zxI.2 ⟨h1,by simp,fun a ha x hx=> ?_⟩;rw[zvm] at hx;subst hx;have:=(zvQ.1 ha).2;rintro⟨e1,e2⟩;simp[Zn,e1,e2,z2] at this
theorem znR(x:Pa)(s b:ByteArray){g:XH}{i j:Nat}(hi:g[i]? =some (.own 0 9 1 [xs s]))(hj:g[j]? =some (.own 0 9 1 [xs b])):Cl C (fun _=>False) 134 [.agg (j5 x),.s (.ptr i 0 0),.s (.ptr j 0 0)] g fun u g'=>u=fb (Zn s b x)∧g'=g:=by
 have la:=zd hi;have lb:=zd hj;refine Cl.ip rfl (zuJ rfl) fun Ψ hΨ=> ?_;simp[j5,hi,hj,la,lb,y0]
 repeat' first|(refine zc (fun hc=> ?_) (fun hc=> ?_)<;>try simp[j5,hi,hj,la,lb,y0])
 all_goals(refine Gh.pure (.s (.lt (by simp))) (hΨ _ _ ⟨?_,rfl⟩);simp at *;simp[Zn,z2, *])
theorem sortP{g:XH}{k w:Nat}{rows:List Pa}{junk:List XV}(hk:g[k]? =some (.own w 171 3 (rows.flatMap j5++junk)))(hd:rows.Pairwise unP)(hlm:rows.length<4611686018427387904):Cl C (fun x=>x=k) 137 [.s (.sl k w 0 rows.length),.s (.v (.fn 138))] g fun u g'=>u= .tup []∧g'=g.set k (.own w 171 3 ((zu ltP rows).flatMap j5++junk)):=by refine(za6 (o:=0) (enc:=cP) (lta:=ltP) rfl (fun _=>rfl) (by decide) (fun a v hv=>by simp[cP] at hv;rcases hv with rfl|rfl|rfl<;>rfl) (fun _=>rfl) ltK_P (l:=rows) (cs:=rows.flatMap j5++junk) (w:=w) (k:=k) hk (by rw[zuR,zf yg,zvv];exact zwS _ _) (by rw[zv4,zve,←zf yg,zkh,zwc];rfl) (Q9 hd) hlm).mono ?_;rintro u g' ⟨rfl,rfl⟩;refine⟨rfl,?_⟩;rw[zkh,zv4];have:=ZW ((zu ltP rows).flatMap j5) (rows.flatMap j5) junk [] (by rw[zf yg,zf yg,zJ]);simp only[zwo,zwb] at this;rw[this]
theorem zs2{g:XH}{i:Nat}{l:List Pa}(h:QM g i l)(hl:l.length≤100)(hd:l.Pairwise unP)(s b:ByteArray)(n:Int):Cl C (fun x=>x=i) 67 [.s (.ptr i 0 0),fs s,fs b,fi n] g fun u g'=>u=fi (j0 l s b n).1∧g'=g.set i (.own 0 177 1 [zbw (j0 l s b n).2]):=by
 have hP:=h;have hi:g[i]? =_:=h;have li:=zd hi;have hs:g.set i (.own 0 177 1 [zbw l])=g:=yZ hi;refine Cl.ip rfl (zuJ rfl) fun Ψ hΨ=> ?_;have bad:∀(e:Int) J,j0 l s b n=(e,l)→Gh (fun x=>x=i) g Ψ (fi e) (g++J):=fun e J h=>Gh.pure .i (hΨ _ _ ⟨by rw[h],by rw[h];exact hs.symm⟩)
 have e0:j0 l s b n=if s.size=0∨b.size=0∨s=b∨¬za n=true then(1,l)
  else
   let v:=wr (Yh l s b+n)
   if v<0∨¬za v=true then(6,l)
   else if 8<(jO l s b v).length then(5,l) else(0,zu ltP (jO l s b v)):=rfl
 by_cases c1:s.size=0
 ·simp[show s.toList.isEmpty=true by rw[ye];exact zv6 c1];exact bad 1 _ (by rw[e0,zuT (.inl c1)])
 by_cases c2:b.size=0
 ·simp[show s.toList.isEmpty=false by rw[ye];exact zv7 c1,show b.toList.isEmpty=true by rw[ye];exact zv6 c2];exact bad 1 _ (by rw[e0,zuT (.inr (.inl c2))])
 simp[show s.toList.isEmpty=false by rw[ye];exact zv7 c1,show b.toList.isEmpty=false by rw[ye];exact zv7 c2,y0];refine zc (fun c3=> ?_) (fun c3=> ?_)
 ·simp at c3;simp;exact bad 1 _ (by rw[e0,zuT (.inr (.inr (.inl c3)))])
 simp at c3;simp;refine zb.pure (z8 ..) ?_;simp;refine zc (fun c4=> ?_) (fun c4=> ?_)
 rotate_left
 ·simp;exact bad 1 _ (by rw[e0,zuT (.inr (.inr (.inr (by simp[c4]))))])
 rw[zuV (by simp[c1,c2,c3,c4])] at e0;simp[hi,li];refine zb.go0 (Ys (q:=Zn s b) (f:=135) rfl yg (by decide) (RdX.lst _ l) (by omega) (.inr ⟨g.length+2,134,[],[.s (.ptr g.length 0 0),.s (.ptr (g.length+1) 0 0)],rfl,by simp,fun x _=>znR x s b (by simp) (by simp)⟩)) ?_;rcases Y6 (Zn s b) l 0 with⟨f1,f2⟩|⟨q,f1,hq,f2⟩
 ·have hpr:Yh l s b=0:=by unfold Yh;rw[f2]
  simp[f1];have e1:j0 l s b n=if wr n<0∨¬za (wr n)=true then(6,l) else if 8<(jO l s b (wr n)).length then(5,l) else(0,zu ltP (jO l s b (wr n))):=by rw[e0];simp only[hpr,zxr]
  have hun:=za2 hd s b (wr n);have hrl:(l.filter fun x=> !Zn s b x).length≤100:=zvB (zwd _ _) hl
  try simp
  refine zc (fun k1=> ?_) (fun k1=> ?_)
  ·simp at k1;simp;exact bad 6 _ (by rw[e1,zuT (.inl k1)])
  simp at k1;simp;refine zb.pure (z8 ..) ?_;simp;refine zc (fun k2=> ?_) (fun k2=> ?_)
  rotate_left
  ·simp;exact bad 6 _ (by rw[e1,zuT (.inr (by simp[k2]))])
  rw[zuV (by simp[k2];omega)] at e1;simp;refine zb.go (zcu hP.app (by omega)) (fun _ _ h=>h.elim) ?_;rintro u g' ⟨w1,rfl,rfl⟩;simp;refine zb.go (zcv (fi':=135) (q:=Zn s b) rfl rfl (by decide) rfl rfl yg (k:=g.length+3) (w:=w1) (l:=l) (junk:=[]) (by simp) (by omega) (fun a m=>Qx a m) (fun m=>by simp[zr]) (fun cells J=> .inr ⟨g.length+2,134,[],[.s (.ptr g.length 0 0),.s (.ptr (g.length+1) 0 0)],rfl,by simp,fun x _=>znR x s b (by simp) (by simp)⟩)) (fun x hx e=> .inl (by omega)) ?_;rintro u g' ⟨junk,hj,rfl,rfl⟩;simp;by_cases hz:wr n=0
  ·skip
   rw[show jO l s b (wr n)=l.filter fun x=> !Zn s b x by unfold jO;simp[hz]] at e1 hun;generalize(l.filter fun x=> !Zn s b x)=M at *;have hml:=zf yg M;simp[hz];refine zc (fun k3=> ?_) (fun k3=> ?_)
   ·simp at k3;simp;exact bad 5 _ (by rw[e1,zuT (by omega)])
   simp at k3;rw[zuV (by omega)] at e1;have hil:=zJ ltP (M);have hS:=fun G (hk:G[g.length+3]? =_)=>sortP (g:=G) (k:=g.length+3) (w:=w1) (rows:=M) (junk:=junk) hk hun (by first|omega|(simp;omega))
   try simp only[zuR,zuW,zvl] at hS hil
   try simp
   refine zb.go (hS _ (by simp[j5])) (fun x hx e=> .inl (by omega)) ?_;rintro u g' ⟨rfl,rfl⟩;simp[hi,li];rw[←hil];refine Gh.fz (g2:=g.set i (.own 0 177 1 [zbw (zu ltP (M))])) (FzH.put (W:=fun x=>x=i) FzH.refl i 0 177 1 rfl (.cons ?_ .nil)) .i (hΨ _ _ ⟨by rw[e1],by rw[e1]⟩);refine FzV.junk (n0:=g.length) (i:=g.length+3) (cs:=(zu ltP (M)).flatMap j5) (junk:=junk) (w:=w1) (t:=171) (z:=3) (by omega) (fun j=>by simp) (by simp) (by rw[zf yg]) (by simp) (by simp[zr,hj])
  ·skip
   rw[show jO l s b (wr n)=(l.filter fun x=> !Zn s b x)++[⟨s,b,wr n⟩] by unfold jO;simp[hz]] at e1 hun;generalize(l.filter fun x=> !Zn s b x)=M at *;have hml:=zf yg M;obtain⟨cs,hcs⟩:∃cs,cs=M.flatMap j5++junk:=⟨_,rfl⟩
   have hcl:cs.length=M.length*3+junk.length:=by rw[hcs,zuR,hml]
   have hcut:(if M.length*3=cs.length then cs else cs.take (M.length*3))=M.flatMap j5:=by
    have e:cs.take (M.length*3)=M.flatMap j5:=by rw[hcs,←hml,zwc];rfl
    split
    ·rename_i h;rw[←e,zvG (by omega)]
    ·exact e
   rw[←hcs];simp[show(wr n !=0)=true by simpa using hz,hcut,show M.length*3≤cs.length by omega,show(M.length+1)*40≤140737488355328 by omega];refine zc (fun k3=> ?_) (fun k3=> ?_)
   ·simp at k3;simp;exact bad 5 _ (by rw[e1,zuT (by simp;omega)])
   simp at k3;rw[zuV (by simp;omega)] at e1;have hil:=zJ ltP (M++[⟨s,b,wr n⟩]);have hS:=fun G (hk:G[g.length+3]? =_)=>sortP (g:=G) (k:=g.length+3) (w:=w1+1) (rows:=M++[⟨s,b,wr n⟩]) (junk:=[]) hk hun (by first|omega|(simp;omega))
   try simp only[zuR,zuW,zvl] at hS hil
   try simp
   refine zb.go (hS _ (by simp[j5])) (fun x hx e=> .inl (by omega)) ?_;rintro u g' ⟨rfl,rfl⟩;simp[hi,li];rw[←hil];refine Gh.fz (g2:=g.set i (.own 0 177 1 [zbw (zu ltP (M++[(⟨s,b,wr n⟩:Pa)]))])) (FzH.put (W:=fun x=>x=i) FzH.refl i 0 177 1 rfl (.cons ?_ .nil)) .i (hΨ _ _ ⟨by rw[e1],by rw[e1]⟩);exact .fl (t:=171) yg (fun m a=>Qx a m) (by omega) (by simp)
 ·have hpr:Yh l s b=l[q].n:=by unfold Yh;rw[f2]
  rw[zvv] at f1;have a3:=(atX yg hq).2.2 2 (by decide);simp[j5] at a3;generalize l[q].n=has at *;simp[f1,hi,li,hq,a3];have e1:j0 l s b n=if wr (has+n)<0∨¬za (wr (has+n))=true then(6,l) else if 8<(jO l s b (wr (has+n))).length then(5,l) else(0,zu ltP (jO l s b (wr (has+n)))):=by rw[e0];simp only[hpr,zxr]
  have hun:=za2 hd s b (wr (has+n));have hrl:(l.filter fun x=> !Zn s b x).length≤100:=zvB (zwd _ _) hl
  try simp
  refine zc (fun k1=> ?_) (fun k1=> ?_)
  ·simp at k1;simp;exact bad 6 _ (by rw[e1,zuT (.inl k1)])
  simp at k1;simp;refine zb.pure (z8 ..) ?_;simp;refine zc (fun k2=> ?_) (fun k2=> ?_)
  rotate_left
  ·simp;exact bad 6 _ (by rw[e1,zuT (.inr (by simp[k2]))])
  rw[zuV (by simp[k2];omega)] at e1;simp;refine zb.go (zcu hP.app (by omega)) (fun _ _ h=>h.elim) ?_;rintro u g' ⟨w1,rfl,rfl⟩;simp;refine zb.go (zcv (fi':=135) (q:=Zn s b) rfl rfl (by decide) rfl rfl yg (k:=g.length+3) (w:=w1) (l:=l) (junk:=[]) (by simp) (by omega) (fun a m=>Qx a m) (fun m=>by simp[zr]) (fun cells J=> .inr ⟨g.length+2,134,[],[.s (.ptr g.length 0 0),.s (.ptr (g.length+1) 0 0)],rfl,by simp,fun x _=>znR x s b (by simp) (by simp)⟩)) (fun x hx e=> .inl (by omega)) ?_;rintro u g' ⟨junk,hj,rfl,rfl⟩;simp;by_cases hz:wr (has+n)=0
  ·skip
   rw[show jO l s b (wr (has+n))=l.filter fun x=> !Zn s b x by unfold jO;simp[hz]] at e1 hun;generalize(l.filter fun x=> !Zn s b x)=M at *;have hml:=zf yg M;simp[hz];refine zc (fun k3=> ?_) (fun k3=> ?_)
   ·simp at k3;simp;exact bad 5 _ (by rw[e1,zuT (by omega)])
   simp at k3;rw[zuV (by omega)] at e1;have hil:=zJ ltP (M);have hS:=fun G (hk:G[g.length+3]? =_)=>sortP (g:=G) (k:=g.length+3) (w:=w1) (rows:=M) (junk:=junk) hk hun (by first|omega|(simp;omega))
   try simp only[zuR,zuW,zvl] at hS hil
   try simp
   refine zb.go (hS _ (by simp[j5])) (fun x hx e=> .inl (by omega)) ?_;rintro u g' ⟨rfl,rfl⟩;simp[hi,li];rw[←hil];refine Gh.fz (g2:=g.set i (.own 0 177 1 [zbw (zu ltP (M))])) (FzH.put (W:=fun x=>x=i) FzH.refl i 0 177 1 rfl (.cons ?_ .nil)) .i (hΨ _ _ ⟨by rw[e1],by rw[e1]⟩);refine FzV.junk (n0:=g.length) (i:=g.length+3) (cs:=(zu ltP (M)).flatMap j5) (junk:=junk) (w:=w1) (t:=171) (z:=3) (by omega) (fun j=>by simp) (by simp) (by rw[zf yg]) (by simp) (by simp[zr,hj])
  ·skip
   rw[show jO l s b (wr (has+n))=(l.filter fun x=> !Zn s b x)++[⟨s,b,wr (has+n)⟩] by unfold jO;simp[hz]] at e1 hun;generalize(l.filter fun x=> !Zn s b x)=M at *;have hml:=zf yg M;obtain⟨cs,hcs⟩:∃cs,cs=M.flatMap j5++junk:=⟨_,rfl⟩
   have hcl:cs.length=M.length*3+junk.length:=by rw[hcs,zuR,hml]
   have hcut:(if M.length*3=cs.length then cs else cs.take (M.length*3))=M.flatMap j5:=by
    have e:cs.take (M.length*3)=M.flatMap j5:=by rw[hcs,←hml,zwc];rfl
    split
    ·rename_i h;rw[←e,zvG (by omega)]
    ·exact e
   rw[←hcs];simp[show(wr (has+n) !=0)=true by simpa using hz,hcut,show M.length*3≤cs.length by omega,show(M.length+1)*40≤140737488355328 by omega];refine zc (fun k3=> ?_) (fun k3=> ?_)
   ·simp at k3;simp;exact bad 5 _ (by rw[e1,zuT (by simp;omega)])
   simp at k3;rw[zuV (by simp;omega)] at e1;have hil:=zJ ltP (M++[⟨s,b,wr (has+n)⟩]);have hS:=fun G (hk:G[g.length+3]? =_)=>sortP (g:=G) (k:=g.length+3) (w:=w1+1) (rows:=M++[⟨s,b,wr (has+n)⟩]) (junk:=[]) hk hun (by first|omega|(simp;omega))
   try simp only[zuR,zuW,zvl] at hS hil
   try simp
   refine zb.go (hS _ (by simp[j5])) (fun x hx e=> .inl (by omega)) ?_;rintro u g' ⟨rfl,rfl⟩;simp[hi,li];rw[←hil];refine Gh.fz (g2:=g.set i (.own 0 177 1 [zbw (zu ltP (M++[(⟨s,b,wr (has+n)⟩:Pa)]))])) (FzH.put (W:=fun x=>x=i) FzH.refl i 0 177 1 rfl (.cons ?_ .nil)) .i (hΨ _ _ ⟨by rw[e1],by rw[e1]⟩);exact .fl (t:=171) yg (fun m a=>Qx a m) (by omega) (by simp)
def QP:List Pa→List Int→Int
 |b::l,r::s=>zg b.n r+QP l s
 |_,_=>0
theorem zex:∀(l:List Pa) (s:List Int) (k:Nat) (h1:k<l.length) (h2:k<s.length),QP (l.take (k+1)) (s.take (k+1))=QP (l.take k) (s.take k)+zg l[k].n s[k]
 |[],_,k,h1,_=>by simp at h1
 |_::_,[],k,_,h2=>by simp at h2
 |b::l,r::s,0,_,_=>by simp[QP]
 |b::l,r::s,k+1,h1,h2=>by simp only[zu8,QP,zwj];rw[zex l s k (by simpa using h1) (by simpa using h2)];omega
theorem zkd:∀(l:List Pa) (s:List Int),-(4000000000001*(l.length:Int))≤QP l s∧QP l s≤4000000000001*(l.length:Int)
 |[],_=>by simp[QP]
 |b::l,[]=>by simp[QP];omega
 |b::l,r::s=>by have h1:=zkd l s;have h2:=zF b.n r;simp only[QP,zvA,zwx,zw9];omega
def zdT:List Pa→List Int→Bool
 |b::l,r::s=>zn r&& !decide (b.n<0)&&za b.n&&zdT l s
 |_,_=>true
theorem zkS:∀(l:List Pa) (s:List Int) (k:Nat) (h1:k<l.length) (h2:k<s.length),zdT l s=true→(zn s[k]&& !decide (l[k].n<0)&&za l[k].n)=true
 |[],_,k,h1,_,_=>by simp at h1
 |_::_,[],k,_,h2,_=>by simp at h2
 |b::l,r::s,0,_,_,h=>by simp only[zdT,zuS] at h;simpa[zuS] using h.1
 |b::l,r::s,k+1,h1,h2,h=>by simp only[zdT,zuS] at h;exact zkS l s k (by simpa using h1) (by simpa using h2) h.2
theorem zhY:∀(l:List Pa) (s:List Int),(∀(k:Nat) (h1:k<l.length) (h2:k<s.length),(zn s[k]&& !decide (l[k].n<0)&&za l[k].n)=true)→zdT l s=true
 |[],_,_=>rfl
 |_::_,[],_=>rfl
 |b::l,r::s,h=>by have h0:=h 0 (by simp) (by simp);rw[zdT,zuS];exact⟨h0,zhY l s fun k h1 h2=>h (k+1) (by simpa using h1) (by simpa using h2)⟩
def zg6(l:List Pa)(s:List Int):Int×Int:=if s.length≠l.length then(0,1) else if zdT l s then(if za (QP l s) then(QP l s,0) else(0,6)) else(0,1)
theorem znk{g:XH}{v u:XV}{l:List Pa}{s:List Int}(hr:RdX g 171 3 j5 v l)(hs:RdX g 3 1 zR u s)(hl:l.length≤1000):
 Cl C (fun _=>False) 93 [.s v,.s u] g fun u g'=>u= .tup [fi (zg6 l s).1,fi (zg6 l s).2]∧g'=g:=by
 refine Cl.ip rfl (zuJ rfl) fun Ψ hΨ=> ?_;simp[hr.len,hs.len];refine zc (fun hc=> ?_) (fun hc=> ?_)
 ·simp at hc;replace hc:¬s.length=l.length:=by omega
  simp;exact Gh.here (hΨ _ _ ⟨by simp[zg6,hc],rfl⟩)
 simp at hc;replace hc:s.length=l.length:=by omega
 simp[hr.len,hs.len];have bad:∀J,zdT l s=false→Gh (fun _=>False) g Ψ (.tup [fi 0,fi 1]) (g++J):=fun J h=>Gh.pure (.t2 .i .i) (hΨ _ _ ⟨by simp[zg6,hc,h],rfl⟩);refine Lp.genU (σ:=Unit) l.length (fun k _=>[(6,fi (QP (l.take k) (s.take k))),(18,fi k)]) (fun _ _=>g) (fun k _=>∀(j:Nat),j<k→∀(h1:j<l.length) (h2:j<s.length),(zn s[j]&& !decide (l[j].n<0)&&za l[j].n)=true) () (by decide) rfl (by simp[QP]) rfl (by omega) ?_ ?_
 ·rintro q hq ⟨⟩ hP hlt N hN;obtain⟨p1,cs,o,b1,b2,b3,b4,b5,_⟩:=hr.atJ yg (by decide) hq;obtain⟨p2,cs2,o2,c1,c2,c3,c4⟩:=hs.at1 zG (k:=q) (by omega);have e1:=zex l s q hq (by omega);have hb:=zkd (l.take q) (s.take q);have hb2:=zF l[q].n s[q];rw[zu6,zvD (by omega)] at hb;have hw:IntKind.i64.wrap (QP (l.take q) (s.take q)+zg l[q].n s[q])=QP (l.take (q+1)) (s.take (q+1)):=by rw[e1];exact ze (by omega) (by omega)
  have hno:(zn s[q]&& !decide (l[q].n<0)&&za l[q].n)=false→zdT l s=false:=fun h=>by
   cases h2:zdT l s with
   |false=>rfl
   |true=>exact absurd (zkS l s q hq (by omega) h2) (by rw[h];exact Bool.false_ne_true)
  simp[l93_0,hq,b1,b2,b3,b4,b5,c1,c2,c3,c4,j5,zR];refine zb.pure (Zc ..) ?_;simp;refine zc (fun h1=> ?_) (fun h1=> ?_)
  ·simp;refine zc (fun h2=> ?_) (fun h2=> ?_)
   ·simp at h2;simp;exact bad _ (hno (by simp[h1,h2]))
   ·simp at h2;simp;refine zb.pure (z8 ..) ?_;simp;refine zc (fun h3=> ?_) (fun h3=> ?_)
    ·simp[c1,c2,c3,c4,zR];refine zb.pure (ofX ..) ?_;simp[hw,yB hq (by omega)];exact Qb () hN (fun j hj a b=>if e:j<q then hP j e a b else by
      obtain rfl:j=q:=by omega
      simp only[h1,h3,zxK,zxf,zwX,zvM];omega) (by simp) (by simpa using hlt)
    ·simp;exact bad _ (hno (by simp[h3]))
  ·simp;exact bad _ (hno (by simp[h1]))
 ·rintro⟨⟩ hP;have hok:zdT l s=true:=zhY l s fun k h1 h2=>hP k h1 h1 h2;rw[zvd,zvG (by omega)];simp[l93_0];refine zb.pure (z8 ..) ?_;simp;refine zc (fun h1=> ?_) (fun h1=> ?_)
  ·simp;exact Gh.here (hΨ _ _ ⟨by simp[zg6,hc,hok,h1],rfl⟩)
  ·simp;exact Gh.here (hΨ _ _ ⟨by simp[zg6,hc,hok,h1],rfl⟩)
def JP(m l:Int):Bool:=zn m&&yF l
theorem zsn(m l:Int):Pure C 130 [fi m,fi l] (fb (JP m l)):=by
 refine Pure.intro0 (e:=e130) rfl (zuJ rfl) (by simp) fun g Ψ h0 hJ=> ?_;simp;refine zb.pure (Zc ..) ?_;simp;refine zc (fun h1=> ?_) (fun h1=> ?_)
 ·simp;refine zc (fun h2=> ?_) (fun h2=> ?_)
  ·simp;exact q6 h0 (by simp at h2;simp[JP,yF,h1,h2])
  ·simp;exact q6 h0 (by simp at h2;simp[JP,yF,h1];omega)
 ·simp;exact q6 h0 (by simp[JP,h1])
theorem zke{g:XH}{b:Bal}(h:BalL b):Cl C (fun _=>False) 157 [.agg (zi b)] g fun u g'=>u= .agg (zi b)∧g'=g:=by have h1:=h.lb;have h2:=h.lr;refine Cl.ip rfl (zuJ rfl) fun Ψ hΨ=> ?_;simp[zi];refine zy 5 [1] (fun _=>False) (by decide) (by decide) ?_;simp only[zu8,zvE,zvj,zve];simp;refine zb.go0 (znh (RdX.lst _ b.b) (by omega)) ?_;simp;refine zb.go0 (zfL (RdX.lst _ b.r) (by omega)) ?_;simp;exact Gh.pure (u':= .agg (zi b)) (.agg (.lts (Qw _ b))) (hΨ _ _ ⟨rfl,rfl⟩)
structure ProC(p:Pro):Prop where
 op:BalL p.op
 cl:BalL p.cl
 lv:p.cur.vec.length≤1000
 lr:p.rows.length≤1000
 ln:p.now.length≤1000
theorem zjD{g:XH}{p:Pro}(h:ProC p):Cl C (fun _=>False) 80 [.agg (zC p)] g fun u g'=>u= .agg (zC p)∧g'=g:=by have h1:=h.op;have h2:=h.cl;have h3:=h.lv;have h4:=h.lr;have h5:=h.ln;refine Cl.ip rfl (zuJ rfl) fun Ψ hΨ=> ?_;simp[zC,pC,zP,zi,zD];refine zy 5 [1] (fun _=>False) (by decide) (by decide) ?_;simp only[zu8,zvE,zvj,zve];simp;refine zb.go0 (zke h1) ?_;simp[zi];refine zb.go0 (zke h2) ?_;simp[zi];refine zy 9 [1] (fun _=>False) (by decide) (by decide) ?_;simp only[zu8,zvE,zvj,zve];simp;refine zb.go0 (zfL (RdX.lst _ p.cur.vec) (by omega)) ?_;simp;refine zb.go0 (zsZ (RdX.lst _ p.rows) (by omega)) ?_;simp;refine zb.go0 (zfL (RdX.lst _ p.now) (by omega)) ?_;simp;exact Gh.pure (u':= .agg (zC p)) (.agg (.lts (Qy _ p))) (hΨ _ _ ⟨rfl,rfl⟩)
end
end Go.Proofs.YtdmcfjkgopmlgaaGreatDoor.Ev.CA
namespace Go.Proofs.YtdmcfjkgopmlgaaGreatDoor.Ev
open Go
section
attribute [-simp] List.length_flatMap getElem?_pos
theorem GhF.refl(m:Nat):∀fr:XFr,GhF m fr fr
 |[]=>trivial
 |(n,some a)::r=>⟨rfl,.inl rfl,GhF.refl m r⟩
 |(n,none)::r=>⟨rfl,GhF.refl m r⟩
theorem Lp.ghostH{C:Nat→Option EF}{B:Nat→Prop}{keep:List Nat}{b:EC}{Φ:Ex→XFr→XH→Prop}(t z:Nat){fr:XFr}{g g2:XH}(hz:FzH B g.length [] [none] [.own 0 t z []] g g g2)(w:Lp C B keep b fr (g2++[.own 0 t z []]) Φ):Lp C B keep b fr g Φ:=by
 rintro R fr1 rfl H h;obtain⟨a1,a2,a3⟩:=zbj H H (Ex2.refl B R) (J:=[]) (by simp) hz;have:=w (R.done R.g.length g2 [none] [.own 0 t z []]) fr1 rfl a2 (h.ghost (fun a b hl r=>RF.done a3 a b hl r) (fun b r=>by
  have:FzF R.g.length [] [none] [.own 0 t z []] (.s (.v .nils)) (.s (.sl (R.g.length+0) 0 0 0)):= .s (.gh (j:=0) (t:=t) (z:=z) rfl rfl);exact this.sound a3 b r) rfl (GhF.refl _ _))
 exact this.mono fun _ _ _=>Pk.trans a1
theorem Lp.ghostAt{C:Nat→Option EF}{B:Nat→Prop}{keep:List Nat}{b:EC}{Φ:Ex→XFr→XH→Prop}(t z:Nat){fr:XFr}{g:XH}{n0 i w T Z:Nat}{cs cs':List XV}(hn:g.length=n0)(hi:g[i]? =some (.own w T Z cs))(hB:B i)(ho:FzVs n0 [] [none] [.own 0 t z []] cs cs')(h:Lp C B keep b fr (g.set i (.own w T Z cs')++[.own 0 t z []]) Φ):Lp C B keep b fr g Φ:=by
 subst hn;refine Lp.ghostH t z ?_ h;have e:g.set i (.own w T Z cs)=g:=by
  refine zv5 fun j=> ?_;by_cases hj:i=j
  ·subst hj;rw[zu2 (zuN.1 hi).1,hi]
  ·rw[zuU hj]
 have h0:FzH B g.length [] [none] [.own 0 t z []] g g g:=⟨rfl,rfl,fun i o e=> .inl ⟨e,.inl e⟩,rfl,fun j j' k e e'=>by
  match j with
  |0=>simp at e
  |n+1=>simp at e,fun j o e=>by
  match j with
  |0=>simp at e;exact .inl ⟨rfl,t,z,e.symm⟩
  |n+1=>simp at e⟩
 have h1:=h0.put i w T Z hB ho
 rwa [e] at h1
def KOs(n0:Nat)(J:XH)(K:List (Option Nat))(O:XH):List (Option Nat)→XH→Prop
 |[],[]=>True
 |none::ks,o::os=>(∃t z,o= .own 0 t z [])∧KOs n0 J K O ks os
 |some k::ks,o::os=>(∃w t z cs cs',J[k]? =some (.own w t z cs)∧o= .own w t z cs'∧FzVs n0 J K O cs cs')∧KOs n0 J K O ks os
 |_,_=>False
theorem KOs.at{n0:Nat}{J:XH}{K:List (Option Nat)}{O:XH}:∀{ks:List (Option Nat)} {os:XH},KOs n0 J K O ks os→ks.length=os.length∧∀(j:Nat) (o:XO),os[j]? =some o→(ks[j]? =some none∧∃t z,o= .own 0 t z [])∨∃k w t z cs cs',ks[j]? =some (some k)∧J[k]? =some (.own w t z cs)∧o= .own w t z cs'∧FzVs n0 J K O cs cs'
 |[],[],_=>⟨rfl,fun j o e=>by simp at e⟩
 |none::ks,o::os,h=>by
  obtain⟨h1,h2⟩:=h;obtain⟨h3,h4⟩:=KOs.at h2;refine⟨by simp[h3],fun j p e=> ?_⟩;cases j with
  |zero=>simp at e;subst e;exact .inl ⟨rfl,h1⟩
  |succ j=>exact h4 j p (by simpa using e)
 |some k::ks,o::os,h=>by
  obtain⟨⟨w,t,z,cs,cs',h1,h5,h6⟩,h2⟩:=h;obtain⟨h3,h4⟩:=KOs.at h2;refine⟨by simp[h3],fun j p e=> ?_⟩;cases j with
  |zero=>simp at e;subst e;exact .inr ⟨k,w,t,z,cs,cs',rfl,h1,h5,h6⟩
  |succ j=>exact h4 j p (by simpa using e)
 |[],_::_,h=>by simp[KOs] at h
 |none::_,[],h=>by simp[KOs] at h
 |some _::_,[],h=>by simp[KOs] at h
def zaz:List (Option Nat)→Bool
 |[]=>true
 |none::r=>zaz r
 |some k::r=> !r.contains (some k)&&zaz r
theorem zc8:∀{K:List (Option Nat)},zaz K=true→∀(j j' k:Nat),K[j]? =some (some k)→K[j']? =some (some k)→j=j'
 |[],_,j,_,k,e,_=>by simp at e
 |x::r,h,0,0,k,_,_=>rfl
 |x::r,h,0,j'+1,k,e,e'=>by
  simp at e e';subst e;simp[zaz] at h;exact absurd (zvy e') h.1
 |x::r,h,j+1,0,k,e,e'=>by
  simp at e e';subst e';simp[zaz] at h;exact absurd (zvy e) h.1
 |x::r,h,j+1,j'+1,k,e,e'=>by
  have h':zaz r=true:=by
   cases x with
   |none=>exact h
   |some a=>simp[zaz] at h;exact h.2
  rw[zc8 h' j j' k (by simpa using e) (by simpa using e')]
theorem zlV{W:Nat→Prop}{g J:XH}{K:List (Option Nat)}{O:XH}(hd:zaz K=true)(h:KOs g.length J K O K O):FzH W g.length J K O g g g:=
 ⟨rfl,rfl,fun i o e=> .inl ⟨e,.inl e⟩,h.at.1,zc8 hd,h.at.2⟩
end
end Go.Proofs.YtdmcfjkgopmlgaaGreatDoor.Ev
namespace Go.Proofs.YtdmcfjkgopmlgaaGreatDoor.Ev.CA
open Go
section
attribute [-simp] List.length_flatMap getElem?_pos
abbrev zbl(s:Sta)(f:XV):List XV:=[xi s.book,xi s.perm,xi s.judge,xi s.cap,xi s.life,xi s.up,f,lpV s.l]
def yf(c:Clo):List XV:=zbl c.was (Yv c.was.filed)++(zC c.p++[xi c.seq])
theorem qW(c:Clo):(yf c).length=50:=by simp[yf,Y3]
@[simp] theorem zlJ(c:Clo)(m:Nat):zr m (yf c):=by simp[yf,zC,pC,zP,zi,zD]
@[simp] theorem zi3(m:Nat)(l:List Clo):zr m (l.flatMap yf):=zQ (fun a=>zlJ a m) l
structure Eo where
 i:Nat
 st:Nat
 sk:Nat
 r:Nat
 c:Nat
 f:Nat
def Eo.ids(o:Eo):List Nat:=[o.i,o.st,o.sk,o.r,o.c,o.f]
abbrev zck(e:Ent)(o:Eo)(w wf:Nat):List XV:=[xs e.id,xs e.j,.ptr o.st 0 0]++zbl e.s (.sl o.f wf 0 e.s.filed.length)++[.ptr o.r 0 0,.sl o.c w 0 e.cs.length,xi e.first]
structure EntP(g:XH)(o:Eo)(e:Ent):Prop where
 nd:o.ids.Nodup
 i:∃w wf junk,(∀m,zr m junk)∧g[o.i]? =some (.own 0 108 14 (zck e o w wf))∧g[o.c]? =some (.own w 159 50 (e.cs.flatMap yf++junk))∧g[o.f]? =some (.own wf 3 1 (e.s.filed.flatMap zR))
 st:JH g o.st o.sk e.first e.touched
 r:Yp g o.r e.s.reg
theorem EntP.same{g G:XH}{o:Eo}{e:Ent}(h:EntP g o e)(hs:∀i∈o.ids,G[i]? =g[i]?):EntP G o e:=by
 obtain⟨nd,⟨w,wf,junk,h0,h1,h2,h3⟩,⟨w2,j2,h4,h5,h6⟩,h7⟩:=h;have q:∀i,i∈o.ids→G[i]? =g[i]? :=hs;refine⟨nd,⟨w,wf,junk,h0,?_,?_,?_⟩,⟨w2,j2,h4,?_,?_⟩,?_⟩
 ·rw[q _ (by simp[Eo.ids])];exact h1
 ·rw[q _ (by simp[Eo.ids])];exact h2
 ·rw[q _ (by simp[Eo.ids])];exact h3
 ·rw[q _ (by simp[Eo.ids])];exact h5
 ·rw[q _ (by simp[Eo.ids])];exact h6
 ·unfold Yp at h7⊢;rw[q _ (by simp[Eo.ids])];exact h7
theorem EntP.lt{g:XH}{o:Eo}{e:Ent}(h:EntP g o e):∀i∈o.ids,i<g.length:=by
 obtain⟨nd,⟨w,wf,junk,h0,h1,h2,h3⟩,⟨w2,j2,h4,h5,h6⟩,h7⟩:=h;simp only[Eo.ids,zu4,zwa,or_false];rintro i (rfl|rfl|rfl|rfl|rfl|rfl)
 ·exact zd h1
 ·exact zd h5
 ·exact zd h6
 ·exact zd h7
 ·exact zd h2
 ·exact zd h3
theorem EntP.app{g J:XH}{o:Eo}{e:Ent}(h:EntP g o e):EntP (g++J) o e:=h.same fun i hi=>zq (h.lt i hi)
structure EntL(e:Ent):Prop where
 st:StaL e.first e.touched
 lo:LosI e.s.l
 reg:Q2 e.s.reg
 rl:e.s.reg.length≤400
 rd:jF ltB e.s.reg=true
 fl:e.s.filed.length≤1000
 cl:e.cs.length+1=e.touched.length
 cs:∀c∈e.cs,ProC c.p∧ProL c.p∧LosI c.was.l∧c.was.filed.length≤1000∧za c.p.cur.tax=true
def Zl(id j:ByteArray)(most life first:Int):Prop:=¬id.size=0∧¬j.size=0∧JP most life=true∧zl first=true
instance (id j:ByteArray)(most life first:Int):Decidable (Zl id j most life first):=by unfold Zl;infer_instance
def ja(id j:ByteArray)(fx most life first:Int):Ent:=⟨id,j,fx,first,[false],⟨0,0,0,most,life,0,[],[],[]⟩,[]⟩
theorem ztd(g:XH)(id j:ByteArray)(fx most life first:Int):Cl C (fun _=>False) 66 [fs id,fs j,fi most,fi life,fi first] g fun u g'=>
 if Zl id j most life first then∃o J,(∀i∈o.ids,g.length≤i)∧u= .tup [.s (.ptr o.i 0 0),fi 0]∧g'=g++J∧EntP g' o (ja id j fx most life first) else u= .tup [.s (.v .nilp),fi 1]∧g'=g:=by
 refine Cl.ip rfl (zuJ rfl) fun Ψ hΨ=> ?_;have bad:∀J,¬Zl id j most life first→Gh (fun _=>False) g Ψ (.tup [.s (.v .nilp),fi 1]) (g++J):=fun J h=>Gh.pure (.t2 (.s (.lt (by simp))) .i) (hΨ _ _ (by rw[zuV h];exact⟨rfl,rfl⟩))
 by_cases c1:id.size=0
 ·simp[show id.toList.isEmpty=true by rw[ye];exact zv6 c1];have:=bad [] fun h=>h.1 c1;simpa using this
 by_cases c2:j.size=0
 ·simp[show id.toList.isEmpty=false by rw[ye];exact zv7 c1,show j.toList.isEmpty=true by rw[ye];exact zv6 c2];have:=bad [] fun h=>h.2.1 c2;simpa using this
 simp[show id.toList.isEmpty=false by rw[ye];exact zv7 c1,show j.toList.isEmpty=false by rw[ye];exact zv7 c2];refine zb.pure (zsn ..) ?_;simp;refine zc (fun c3=> ?_) (fun c3=> ?_)
 rotate_left
 ·simp;have:=bad [] fun h=>by have:=h.2.2.1;rw[c3] at this;cases this
  simpa using this
 simp;refine zb.pure (Zh ..) ?_;simp;refine zc (fun c4=> ?_) (fun c4=> ?_)
 rotate_left
 ·simp;have:=bad [] fun h=>by have:=h.2.2.2;rw[c4] at this;cases this
  simpa using this
 have hok:Zl id j most life first:=⟨c1,c2,c3,c4⟩
 simp;have hS:=zue g first
 simp only[c4,if_true] at hS;refine zb.go hS (fun _ _ h=>h.elim) ?_;rintro u g' ⟨rfl,rfl⟩;simp;refine zb.go (ztx _) (fun _ _ h=>h.elim) ?_;rintro u g' ⟨rfl,rfl⟩;simp;refine zb.go (zt3 _) (fun _ _ h=>h.elim) ?_;rintro u g' ⟨rfl,rfl⟩;simp;have lx:∀n:Int,lvV g.length (xi n):=fun n=>by simp
 refine Gh.keep [some 0,some 1,some 2,some 3,none,none] [.own 0 4 1 [xb false],.own 0 257 2 [xi first,.sl g.length 0 0 1],.own 0 263 1 [.lst 261 3 0 []],.own 0 108 14 (zck (ja id j fx most life first) ⟨g.length+3,g.length+1,g.length,g.length+2,g.length+4,g.length+5⟩ 0 0),.own 0 159 50 [],.own 0 3 1 []] (zlV rfl ⟨⟨_,_,_,_,_,rfl,rfl,.cons (.lt (by simp)) .nil⟩,⟨_,_,_,_,_,rfl,rfl,.cons (.lt (by simp)) (.cons (.ksl (j:=0) (k:=0) rfl) .nil)⟩,⟨_,_,_,_,_,rfl,rfl,.lts (by simp)⟩,⟨_,_,_,_,_,rfl,rfl,?_⟩,⟨_,_,rfl⟩,⟨_,_,rfl⟩,trivial⟩) (.t2 (.s (.kptr (j:=3) (k:=3) rfl)) .i) (hΨ _ _ ?_)
 ·exact .cons (.lt (by simp)) (.cons (.lt (by simp)) (.cons (.kptr (j:=1) (k:=1) rfl) (.cons (.lt (lx _)) (.cons (.lt (lx _)) (.cons (.lt (lx _)) (.cons (.lt (lx _)) (.cons (.lt (lx _)) (.cons (.lt (lx _)) (.cons (.gh (j:=5) rfl rfl) (.cons (.lt (by simp)) (.cons (.kptr (j:=2) (k:=2) rfl) (.cons (.gh (j:=4) rfl rfl) (.cons (.lt (lx _)) .nil)))))))))))))
 ·rw[zuT hok];refine⟨⟨g.length+3,g.length+1,g.length,g.length+2,g.length+4,g.length+5⟩,_,?_,rfl,rfl,?_,⟨0,0,[],fun m=>by simp[zr],by simp,by simp[ja],by simp[ja]⟩,⟨0,[],fun m=>by simp[zr],by simp[ja],by simp[ja]⟩,by simp[Yp,ja]⟩
  ·simp[Eo.ids]
  ·simp[Eo.ids]
theorem nk1{k m:Nat}(h:m≠k):zjy [some k] m:=by
 intro j;cases j with
 |zero=>simp;omega
 |succ j=>simp
theorem zdw{g:XH}(s:Sta){fv:XV}(hf:RdX g 3 1 zR fv s.filed)(h1:s.filed.length≤1000)(h2:s.l.length≤1000):Cl C (fun _=>False) 96 [.agg (zbl s fv)] g fun u g'=>∃w,u= .agg (zbl s (.sl g.length w 0 s.filed.length))∧g'=g++[.own w 3 1 (s.filed.flatMap zR)]:=by
 refine Cl.ip rfl (zuJ rfl) fun Ψ hΨ=> ?_;simp;refine zy 5 [1] (fun _=>False) (by decide) (by decide) ?_;simp only[zu8,zvE,zvj,zve];simp;refine zb.go (Y2 (enc:=zR) (z:=1) rfl rfl rfl zG (by decide) hf.app (fun a=>by simp[zR]) (by omega)) (fun _ _ h=>h.elim) ?_;rintro u g' ⟨w,rfl,rfl⟩;simp;refine zb.go (zhE (znY _ s.l) (by omega)) (fun _ _ h=>h.elim) ?_;rintro u g' ⟨rfl,w2,rfl⟩;simp;have lx:∀n:Int,lvV g.length (xi n):=fun n=>by simp
 refine Gh.keep [some 2] [.own w 3 1 (s.filed.flatMap zR)] (zlV rfl ⟨⟨_,_,_,_,_,rfl,rfl,.lts (by simp)⟩,trivial⟩) (.agg (.cons (.lt (lx _)) (.cons (.lt (lx _)) (.cons (.lt (lx _)) (.cons (.lt (lx _)) (.cons (.lt (lx _)) (.cons (.lt (lx _)) (.cons (.ksl (j:=0) (k:=2) rfl) (.cons ?_ .nil))))))))) (hΨ _ _ ⟨w,rfl,rfl⟩);refine .ptr (i:=g.length+4) (t:=295) (z:=1) (by omega) (nk1 (by omega)) (by simp) (by simp) (.cons (.full (i:=g.length+3) (w:=w2) (t:=327) (z:=3) (n:=s.l.length) (cs:=s.l.flatMap yL) (by omega) (nk1 (by omega)) (by simp) (by rw[zf zM]) (.lts (by simp))) .nil)
theorem zeT{g:XH}(s:Sta){fv:XV}(hf:RdX g 3 1 zR fv s.filed)(h1:s.filed.length≤1000)(h2:s.l.length≤1000):Cl C (fun _=>False) 96 [.agg (zbl s fv)] g fun u g'=>u= .agg (zbl s (Yv s.filed))∧g'=g:=by
 refine Cl.gh ((zdw s hf h1 h2).mono ?_);rintro u g' ⟨w,rfl,rfl⟩;have lx:∀n:Int,lvV g.length (xi n):=fun n=>by simp
 refine Gh.pure (.agg (.cons (.lt (lx _)) (.cons (.lt (lx _)) (.cons (.lt (lx _)) (.cons (.lt (lx _)) (.cons (.lt (lx _)) (.cons (.lt (lx _)) (.cons ?_ (.cons (.lt (by simp)) .nil))))))))) ⟨rfl,rfl⟩;exact .full (zuQ _) (fun j=>by simp) (by simp) (by rw[zf zG]) (.lts (by simp))
abbrev cpG(g:XH)(e:Ent)(w1 w2 w3 k w:Nat):XH:=g++[.own 0 108 14 [xs e.id,xs e.j,.ptr (g.length+1+1) 0 0,xi e.s.book,xi e.s.perm,xi e.s.judge,xi e.s.cap,xi e.s.life,xi e.s.up,.sl (g.length+3) w2 0 e.s.filed.length,lpV e.s.l,.ptr (g.length+4+1) 0 0,.sl (g.length+6) w 0 k,xi e.first],.own w1 4 1 (e.touched.flatMap qc),.own 0 257 2 [xi e.first,.sl (g.length+1) w1 0 e.touched.length],.own w2 3 1 (e.s.filed.flatMap zR),.own w3 261 3 (e.s.reg.flatMap z1),.own 0 263 1 [.sl (g.length+4) w3 0 e.s.reg.length],.own w 159 50 ((e.cs.take k).flatMap yf)]
theorem zhh{g:XH}{o:Eo}{e:Ent}(h:EntP g o e)(hL:EntL e):Cl C (fun _=>False) 44 [.s (.ptr o.i 0 0)] g fun u g'=>∃o' J,(∀i∈o'.ids,g.length≤i)∧u= .s (.ptr o'.i 0 0)∧g'=g++J∧EntP g' o' e:=by
 obtain⟨nd,⟨w,wf,junk,h0,hi,hc,hf⟩,hst,hr⟩:=h;have li:=zd hi;have lc:=zd hc;refine Cl.ip rfl (zuJ rfl) fun Ψ hΨ=> ?_;simp[hi,li];refine zy 14 [0] (fun _=>False) (by decide) (by decide) ?_;simp only[zu8,zvE,zvj,zve];simp[hi,li];refine zb.go (ziq hst.app hL.st) (fun _ _ h=>h.elim) ?_;rintro u g' ⟨rfl,w1,rfl⟩;simp[hi,li];refine zb.go (zdw e.s (RdX.sl zG hf).app hL.fl (by have:=hL.lo.len;omega)) (fun _ _ h=>h.elim) ?_;rintro u g' ⟨w2,rfl,rfl⟩;simp[hi,li];refine zb.go (zd4 hr.app (by have:=hL.rl;omega)) (fun _ _ h=>h.elim) ?_;rintro u g' ⟨rfl,w3,rfl⟩;simp[hi,li];have lx:∀n:Int,lvV (g.length+6) (xi n):=fun n=>by simp
 refine Lp.ghostAt 159 50 (n0:=g.length+6) (i:=g.length) (w:=0) (T:=108) (Z:=14) (by simp) ZK (.inl (zuQ _)) (.cons (.lt (by simp)) (.cons (.lt (by simp)) (.cons (.lt (by simp)) (.cons (.lt (lx _)) (.cons (.lt (lx _)) (.cons (.lt (lx _)) (.cons (.lt (lx _)) (.cons (.lt (lx _)) (.cons (.lt (lx _)) (.cons (.lt (by simp)) (.cons (.lt (by simp)) (.cons (.lt (by simp)) (.cons (.gh (j:=0) rfl rfl) (.cons (.lt (lx _)) .nil)))))))))))))) ?_;simp;refine Lp.genU (σ:=Nat) e.cs.length (fun k _=>[(33,fi k)]) (fun k w=>cpG g e w1 w2 w3 k w) (fun _ _=>True) 0 (by decide) rfl (by simp) (by simp[cpG]) trivial ?_ ?_
 ·rintro q hq w4 _ hlt N hN;obtain⟨p1,cs1,o1,b1,b2,b3,b4,b5,_⟩:=(RdX.junk qW hc).atJ qW (by decide) hq;obtain⟨hc1,_,hc2,hc3,_⟩:=hL.cs _ (zvi hq);have hc4:=hc2.len;have e1:e.cs.take (q+1)=e.cs.take q++[e.cs[q]]:=zu3 hq;have hfl:((e.cs.take q).flatMap yf).length=q*50:=by rw[zf qW];simp;omega
  have hlF:∀m,zr m ((e.cs.take q).flatMap yf):=fun m=>zi3 m _;simp only[cpG,e1,zvq] at hN⊢;generalize(e.cs.take q).flatMap yf=F at *;generalize e.cs[q]=c at *;have hql:=yB hq (by have:=hL.cl;have:=hL.st.hi;omega);have hroom:(q+1)*536≤140737488355328:=by have:=hL.cl;have:=hL.st.hi;omega
  simp[l44_0,hq,b1,b2,b3,b4,b5,yf,zC,pC,zP,zi,zD];refine zb.go0 (zeT c.was (RdX.lst _ c.was.filed) hc3 (by omega)) ?_;simp;refine zb.go0 (zjD hc1) ?_;simp[zC,pC,zP,zi,zD,hfl,hroom,hql];refine zcH (fun fr g'=>hN (w4+1) fr g' trivial) _ rfl (by simp) (by simpa using hlt) (by simp) ?_;intro x hx;simp only[zu4,zwa,or_false] at hx;rcases hx with rfl|rfl|rfl|rfl|rfl|rfl|rfl
  all_goals simp[lvO,hlF]
 ·rintro w4 _;simp only[cpG,zvd];simp[l44_0];refine Gh.keep [some 0,some 1,some 2,some 3,some 5,some 6] [.own 0 108 14 (zck e ⟨g.length,g.length+2,g.length+1,g.length+4,g.length+5,g.length+3⟩ w4 w2),.own w1 4 1 (e.touched.flatMap qc),.own 0 257 2 [xi e.first,.sl (g.length+1) w1 0 e.touched.length],.own w2 3 1 (e.s.filed.flatMap zR),.own 0 263 1 [zhG e.s.reg],.own w4 159 50 (e.cs.flatMap yf)] (zlV rfl ⟨⟨_,_,_,_,_,rfl,rfl,?_⟩,⟨_,_,_,_,_,rfl,rfl,.lts (by simp)⟩,⟨_,_,_,_,_,rfl,rfl,.cons (.lt (by simp)) (.cons (.ksl (j:=1) (k:=1) rfl) .nil)⟩,⟨_,_,_,_,_,rfl,rfl,.lts (by simp)⟩,⟨_,_,_,_,_,rfl,rfl,.cons ?_ .nil⟩,⟨_,_,_,_,_,rfl,rfl,.lts (by simp)⟩,trivial⟩) (.s (.kptr (j:=0) (k:=0) rfl)) (hΨ _ _ ?_)
  ·have lx:∀n:Int,lvV g.length (xi n):=fun n=>by simp
   exact .cons (.lt (by simp)) (.cons (.lt (by simp)) (.cons (.kptr (j:=2) (k:=2) rfl) (.cons (.lt (lx _)) (.cons (.lt (lx _)) (.cons (.lt (lx _)) (.cons (.lt (lx _)) (.cons (.lt (lx _)) (.cons (.lt (lx _)) (.cons (.ksl (j:=3) (k:=3) rfl) (.cons (.lt (by simp)) (.cons (.kptr (j:=4) (k:=5) rfl) (.cons (.ksl (j:=5) (k:=6) rfl) (.cons (.lt (lx _)) .nil)))))))))))))
  ·exact .full (i:=g.length+4) (w:=w3) (t:=261) (z:=3) (n:=e.s.reg.length) (cs:=e.s.reg.flatMap z1) (by omega) (fun j=>by match j with|0=>simp|1=>simp|2=>simp|3=>simp|4=>simp|5=>simp|n+6=>simp) (by simp) (by rw[zf zO]) (.lts (by simp))
  ·refine⟨⟨g.length,g.length+2,g.length+1,g.length+4,g.length+5,g.length+3⟩,_,?_,rfl,rfl,?_,⟨w4,w2,[],fun m=>by simp[zr],by simp,by simp,by simp⟩,⟨w1,[],fun m=>by simp[zr],by simp,by simp⟩,by simp[Yp]⟩
   ·simp[Eo.ids]
   ·simp[Eo.ids]
structure Sam(S:Nat→Prop)(g g':XH):Prop where
 len:g'.length=g.length
 same:∀j:Nat,¬S j→g'[j]? =g[j]?
theorem Upd.sam{S:Nat→Prop}{g g':XH}(h:Upd S g g'):Sam S g g':=⟨h.len,h.same⟩
theorem Sam.refl{S:Nat→Prop}{g:XH}:Sam S g g:=⟨rfl,fun _ _=>rfl⟩
theorem Sam.trans{S:Nat→Prop}{g g' g'':XH}(h:Sam S g g')(k:Sam S g' g''):Sam S g g'':=⟨k.len.trans h.len,fun j hj=>(k.same j hj).trans (h.same j hj)⟩
theorem Sam.mono{S T:Nat→Prop}{g g':XH}(h:Sam S g g')(hs:∀j,S j→T j):Sam T g g':=⟨h.len,fun j hj=>h.same j fun k=>hj (hs j k)⟩
theorem Sam.set{S:Nat→Prop}{g:XH}{i:Nat}(hi:S i)(o:XO):Sam S g (g.set i o):=⟨by simp,fun j hj=>by rw[zuU (by rintro rfl;exact hj hi)]⟩
theorem Sam.cut{S:Nat→Prop}{g J g':XH}(h:Sam S (g++J) g')(hS:∀j,S j→j<g.length):∃G,g'=G++J∧Sam S g G:=by
 refine⟨g'.take g.length,?_,by rw[zu6,h.len];simp,fun j hj=> ?_⟩
 ·have h1:g'.drop g.length=J:=by
   refine zv5 fun j=> ?_;rw[zvR,h.same _ (fun k=>by have:=hS _ k;omega),zuP (by omega)];congr 1;omega
  rw[←h1,zvn]
 ·rw[zvo];split
  ·rename_i hl;rw[h.same j hj,zuO hl]
  ·rename_i hl;rw[zvU (by omega)]
theorem EntP.old{g:XH}{o:Eo}{e:Ent}(h:EntP g o e){n:Nat}(hn:∀i∈o.ids,i<n):∀i∈o.ids,∀x:XO,g[i]? =some x→lvO n x:=by
 obtain⟨nd,⟨w,wf,junk,h0,h1,h2,h3⟩,⟨w2,j2,h4,h5,h6⟩,h7⟩:=h;have h7:g[o.r]? =_:=h7;have n1:=hn o.st (by simp[Eo.ids]);have n2:=hn o.sk (by simp[Eo.ids]);have n3:=hn o.r (by simp[Eo.ids]);have n4:=hn o.c (by simp[Eo.ids]);have n5:=hn o.f (by simp[Eo.ids]);simp only[Eo.ids,zu4,zwa,or_false];rintro i (rfl|rfl|rfl|rfl|rfl|rfl) x hx
 ·rw[h1] at hx;cases hx;simp[lvO,n1,n2,n3,n4,n5]
 ·rw[h5] at hx;cases hx;simp[lvO,n1,n2,n3,n4,n5]
 ·rw[h6] at hx;cases hx;simp[lvO,h4]
 ·rw[h7] at hx;cases hx;simp[lvO]
 ·rw[h2] at hx;cases hx;simp[lvO,h0]
 ·rw[h3] at hx;cases hx;simp[lvO]
theorem EntP.upd{g g':XH}{o:Eo}{e:Ent}(h:EntP g' o e)(hs:Sam (fun x=>x∈o.ids) g g'):Upd (fun x=>x∈o.ids) g g':=by
 refine⟨hs.len,hs.same,fun j x hx=> ?_⟩;by_cases hj:j∈o.ids
 ·exact .inr (h.old (fun i hi=>by rw[←hs.len];exact h.lt i hi) j hj x hx)
 ·rw[hs.same j hj] at hx;exact .inl hx
theorem zad{W:Nat→Prop}{g J g':XH}{o:Eo}{e:Ent}{u:XF}{Ψ:XF→XH→Prop}(h:EntP g' o e)(hs:Sam (fun x=>x∈o.ids) (g++J) g')(hl:∀i∈o.ids,i<g.length)(hu:lvF g.length u)(hp:∀G,Sam (fun x=>x∈o.ids) g G→EntP G o e→Ψ u G):Gh W g Ψ u g':=by obtain⟨G,rfl,h1⟩:=hs.cut hl;have h2:EntP G o e:=h.same fun i hi=>(zq (by rw[h1.len];exact hl i hi)).symm;exact qX (h2.upd h1) hu (hp G h1 h2)
theorem EntP.setSt{g G:XH}{o:Eo}{e:Ent}(h:EntP g o e){t:List Bool}(hs:∀j∈o.ids,j≠o.st→j≠o.sk→G[j]? =g[j]?)(ht:JH G o.st o.sk e.first t):EntP G o {e with touched:=t}:=by
 obtain⟨nd,⟨w,wf,junk,h0,h1,h2,h3⟩,h4,h5⟩:=h;have n:=nd;simp[Eo.ids] at n;have h5:g[o.r]? =_:=h5;refine⟨nd,⟨w,wf,junk,h0,?_,?_,?_⟩,ht,?_⟩
 ·rw[hs _ (by simp[Eo.ids]) (by omega) (by omega)];exact h1
 ·rw[hs _ (by simp[Eo.ids]) (by omega) (by omega)];exact h2
 ·rw[hs _ (by simp[Eo.ids]) (by omega) (by omega)];exact h3
 ·show G[o.r]? =_;rw[hs _ (by simp[Eo.ids]) (by omega) (by omega)];exact h5
def zz(e:Ent)(d:Int×Sta):Int×Ent:=
 if¬zl (yt e.first e.touched)=true then(8,e)
 else if d.1=0 then(0,{e with s:=d.2,touched:=e.touched.set (e.touched.length-1) true}) else(d.1,{e with s:=d.2})
theorem ZI{g:XH}{o:Eo}{e:Ent}(h:EntP g o e)(hL:StaL e.first e.touched){k f:Nat}{a b:List XF}(hk:g[k]? =some (.clo f a b))(d:Int×Sta)(hdo:Cl C (fun x=>x∈o.ids) f (a++b) g fun u g'=>u=fi d.1∧EntP g' o {e with s:=d.2}∧Sam (fun x=>x∈o.ids) g g'):
 Cl C (fun x=>x∈o.ids) 45 [.s (.ptr o.i 0 0),.s (.cl k)] g fun u g'=>u=fi (zz e d).1∧EntP g' o (zz e d).2∧Sam (fun x=>x∈o.ids) g g':=by
 have hP:=h;obtain⟨nd,⟨w,wf,junk,h0,hi,hc,hf⟩,hst,hr⟩:=h;have li:=zd hi;have lk:=zd hk;refine Cl.ip rfl (zuJ rfl) fun Ψ hΨ=> ?_;simp[hi,li];refine zb.go0 (zcL hst hL) ?_;cases hp:zl (yt e.first e.touched) with
 |false=>
  simp;exact Gh.here (hΨ _ _ (by simp only[zz,hp];exact⟨rfl,hP,Sam.refl⟩))
 |true=>
  simp[hk,lk];refine zb.go hdo (fun x hx e=> .inr e) ?_;rintro u g' ⟨rfl,hE,hS⟩;simp;refine zc (fun c1=> ?_) (fun c1=> ?_)
  ·simp at c1;simp;exact Gh.here (hΨ _ _ (by simp only[zz,hp,not_true_eq_false,if_false,zuV c1];exact⟨trivial,hE,hS⟩))
  simp at c1;have hE':=hE;obtain⟨_,⟨w',wf',junk',h0',hi',_,_⟩,hst',_⟩:=hE;have li':=zd hi';simp[hi',li'];have n:=nd;simp[Eo.ids] at n;refine zb.go (zoR hst' (by omega) hL) (fun x hx e=> .inr (by rw[e];simp[Eo.ids])) ?_;rintro u g2 ⟨rfl,hT,hU⟩;simp[zgV,hp] at hT⊢;refine Gh.here (hΨ _ _ ?_);simp only[zz,hp,not_true_eq_false,if_false,zuT c1];exact⟨trivial,hE'.setSt (t:=e.touched.set (e.touched.length-1) true) (fun j hj h1 h2=>hU.same j h2) hT,hS.trans (hU.sam.mono fun j h=>by rw[h];simp[Eo.ids])⟩
def qv(s n:Int):Int×Int:=if¬za n=true then(1,s) else if¬za (wr (s+n))=true then(6,s) else(0,wr (s+n))
theorem zi5{g:XH}{i t z off:Nat}{cs:List XV}{s:Int}(hi:g[i]? =some (.own 0 t z cs))(ho:cs[off]? =some (xi s))(n:Int):Cl C (fun x=>x=i) 47 [.s (.ptr i 0 off),fi n] g fun u g'=>u=fi (qv s n).1∧g'=g.set i (.own 0 t z (cs.set off (xi (qv s n).2))):=by
 have li:=zd hi;have lo:off<cs.length:=(zuN.1 ho).1;have hsame:∀a,qv s n=(a,s)→g.set i (.own 0 t z (cs.set off (xi (qv s n).2)))=g:=fun a e=>by
  rw[e];have:cs.set off (xi s)=cs:=by
   refine zv5 fun j=> ?_;by_cases hj:off=j
   ·subst hj;rw[zu2 lo,ho]
   ·rw[zuU hj]
  rw[this];exact yZ hi
 refine Cl.ip rfl (zuJ rfl) fun Ψ hΨ=> ?_;simp;refine zb.pure (z8 ..) ?_;simp;refine zc (fun c1=> ?_) (fun c1=> ?_)
 rotate_left
 ·simp;exact Gh.here (hΨ _ _ (by rw[hsame 1 (by simp[qv,c1])];exact⟨by simp[qv,c1],rfl⟩))
 simp[hi,li,ho,lo];refine zb.pure (z8 ..) ?_;simp;refine zc (fun c2=> ?_) (fun c2=> ?_)
 rotate_left
 ·simp;exact Gh.here (hΨ _ _ (by rw[hsame 6 (by simp[qv,c1,c2])];exact⟨by simp[qv,c1,c2],rfl⟩))
 simp[hi,li,ho,lo];have hne:cs≠[]:=fun e=>by rw[e] at lo;simp at lo
 simp[hne,show off+1≤cs.length by omega];exact Gh.here (hΨ _ _ (by simp[qv,c1,c2]))
theorem EntP.setS{g:XH}{o:Eo}{e:Ent}(h:EntP g o e){w wf:Nat}(hi:g[o.i]? =some (.own 0 108 14 (zck e o w wf)))(s':Sta)(hf:s'.filed=e.s.filed)(hr:s'.reg=e.s.reg):EntP (g.set o.i (.own 0 108 14 (zck {e with s:=s'} o w wf))) o {e with s:=s'}:=by
 obtain⟨nd,⟨w',wf',junk,h0,h1,h2,h3⟩,⟨w2,j2,h4,h5,h6⟩,h7⟩:=h;have n:=nd;simp[Eo.ids] at n;have li:=zd hi;have e1:=h1.symm.trans hi;simp at e1;obtain⟨rfl,rfl⟩:wf'=wf∧w'=w:=e1;have h7:g[o.r]? =_:=h7;refine⟨nd,⟨w',wf',junk,h0,zu2 li,?_,?_⟩,⟨w2,j2,h4,?_,?_⟩,?_⟩
 ·rw[zuU (by omega)];exact h2
 ·rw[zuU (by omega)];simp only[hf];exact h3
 ·rw[zuU (by omega)];exact h5
 ·rw[zuU (by omega)];exact h6
 ·show(g.set _ _)[o.r]? =_;rw[zuU (by omega),h7];simp only[hr]
theorem EntP.setR{g G:XH}{o:Eo}{e:Ent}(h:EntP g o e){l:List Bu}(hs:Sam (fun x=>x=o.r) g G)(hr:Yp G o.r l):EntP G o {e with s:={e.s with reg:=l}}:=by
 obtain⟨nd,⟨w',wf',junk,h0,h1,h2,h3⟩,⟨w2,j2,h4,h5,h6⟩,h7⟩:=h;have n:=nd;simp[Eo.ids] at n;refine⟨nd,⟨w',wf',junk,h0,?_,?_,?_⟩,⟨w2,j2,h4,?_,?_⟩,hr⟩
 all_goals(rw[hs.same _ (by omega)];assumption)
def YC(s:Sta)(n:Int):Int×Sta:=((qv s.book n).1,{s with book:=(qv s.book n).2})
theorem zsS{g:XH}{o:Eo}{e:Ent}(h:EntP g o e){a b:Nat}{n:Int}(ha:g[a]? =some (.own 0 45 1 [.ptr o.i 0 0]))(hb:g[b]? =some (.own 0 3 1 [xi n])):Cl C (fun x=>x∈o.ids) 46 [.s (.ptr a 0 0),.s (.ptr b 0 0)] g fun u g'=>u=fi (YC e.s n).1∧EntP g' o {e with s:=(YC e.s n).2}∧Sam (fun x=>x∈o.ids) g g':=by have hP:=h;obtain⟨nd,⟨w,wf,junk,h0,hi,hc,hf⟩,hst,hr⟩:=h;have li:=zd hi;have la:=zd ha;have lb:=zd hb;have hlt:=hP.lt;refine Cl.ip rfl (zuJ rfl) fun Ψ hΨ=> ?_;simp[hi,li,ha,la,hb,lb];refine zb.go (zi5 (off:=3) hi (s:=e.s.book) rfl n) (fun x hx e=> .inr (by rw[e];simp[Eo.ids])) ?_;rintro u g' ⟨rfl,rfl⟩;simp;exact Gh.here (hΨ _ _ ⟨rfl,hP.setS hi (YC e.s n).2 rfl rfl,Sam.set (by simp[Eo.ids]) _⟩)
theorem zkr{g:XH}{o:Eo}{e:Ent}(h:EntP g o e)(hL:StaL e.first e.touched)(n:Int):Cl C (fun x=>x∈o.ids) 16 [.s (.ptr o.i 0 0),fi n] g fun u g'=>u=fi (zz e (YC e.s n)).1∧EntP g' o (zz e (YC e.s n)).2∧Sam (fun x=>x∈o.ids) g g':=by refine Cl.ip rfl (zuJ rfl) fun Ψ hΨ=> ?_;simp;refine zb.go (ZI (g:=g++[.own 0 45 1 [.ptr o.i 0 0],.own 0 3 1 [xi n],.clo 46 [] [.s (.ptr g.length 0 0),.s (.ptr (g.length+1) 0 0)]]) h.app hL (k:=g.length+2) (f:=46) (a:=[]) (b:=[.s (.ptr g.length 0 0),.s (.ptr (g.length+1) 0 0)]) (by simp) (YC e.s n) (zsS h.app (a:=g.length) (b:=g.length+1) (by simp) (by simp))) (fun x hx e=> .inr e) ?_;rintro u g' ⟨rfl,hE,hS⟩;simp;exact zad hE hS h.lt (by simp) fun G h1 h2=>hΨ _ _ ⟨rfl,h2,h1⟩
def QV(s:Sta)(n:Int):Int×Sta:=((qv s.perm n).1,{s with perm:=(qv s.perm n).2})
theorem ztW{g:XH}{o:Eo}{e:Ent}(h:EntP g o e){a b:Nat}{n:Int}(ha:g[a]? =some (.own 0 45 1 [.ptr o.i 0 0]))(hb:g[b]? =some (.own 0 3 1 [xi n])):Cl C (fun x=>x∈o.ids) 141 [.s (.ptr a 0 0),.s (.ptr b 0 0)] g fun u g'=>u=fi (QV e.s n).1∧EntP g' o {e with s:=(QV e.s n).2}∧Sam (fun x=>x∈o.ids) g g':=by have hP:=h;obtain⟨nd,⟨w,wf,junk,h0,hi,hc,hf⟩,hst,hr⟩:=h;have li:=zd hi;have la:=zd ha;have lb:=zd hb;have hlt:=hP.lt;refine Cl.ip rfl (zuJ rfl) fun Ψ hΨ=> ?_;simp[hi,li,ha,la,hb,lb];refine zb.go (zi5 (off:=4) hi (s:=e.s.perm) rfl n) (fun x hx e=> .inr (by rw[e];simp[Eo.ids])) ?_;rintro u g' ⟨rfl,rfl⟩;simp;exact Gh.here (hΨ _ _ ⟨rfl,hP.setS hi (QV e.s n).2 rfl rfl,Sam.set (by simp[Eo.ids]) _⟩)
theorem zqq{g:XH}{o:Eo}{e:Ent}(h:EntP g o e)(hL:StaL e.first e.touched)(n:Int):Cl C (fun x=>x∈o.ids) 70 [.s (.ptr o.i 0 0),fi n] g fun u g'=>u=fi (zz e (QV e.s n)).1∧EntP g' o (zz e (QV e.s n)).2∧Sam (fun x=>x∈o.ids) g g':=by refine Cl.ip rfl (zuJ rfl) fun Ψ hΨ=> ?_;simp;refine zb.go (ZI (g:=g++[.own 0 45 1 [.ptr o.i 0 0],.own 0 3 1 [xi n],.clo 141 [] [.s (.ptr g.length 0 0),.s (.ptr (g.length+1) 0 0)]]) h.app hL (k:=g.length+2) (f:=141) (a:=[]) (b:=[.s (.ptr g.length 0 0),.s (.ptr (g.length+1) 0 0)]) (by simp) (QV e.s n) (ztW h.app (a:=g.length) (b:=g.length+1) (by simp) (by simp))) (fun x hx e=> .inr e) ?_;rintro u g' ⟨rfl,hE,hS⟩;simp;exact zad hE hS h.lt (by simp) fun G h1 h2=>hΨ _ _ ⟨rfl,h2,h1⟩
def zhO(s:Sta)(c y n:Int):Int×Sta:=((jv s.reg c y n).1,{s with reg:=(jv s.reg c y n).2})
theorem ztK{g:XH}{o:Eo}{e:Ent}(h:EntP g o e)(hI:Q2 e.s.reg){a b1 b2 b3:Nat}{c y n:Int}(ha:g[a]? =some (.own 0 45 1 [.ptr o.i 0 0]))(hb1:g[b1]? =some (.own 0 3 1 [xi c]))(hb2:g[b2]? =some (.own 0 3 1 [xi y]))(hb3:g[b3]? =some (.own 0 3 1 [xi n])):Cl C (fun x=>x∈o.ids) 142 [.s (.ptr a 0 0),.s (.ptr b1 0 0),.s (.ptr b2 0 0),.s (.ptr b3 0 0)] g fun u g'=>u=fi (zhO e.s c y n).1∧EntP g' o {e with s:=(zhO e.s c y n).2}∧Sam (fun x=>x∈o.ids) g g':=by have hP:=h;obtain⟨nd,⟨w,wf,junk,h0,hi,hc,hf⟩,hst,hr⟩:=h;have li:=zd hi;have la:=zd ha;have lb1:=zd hb1;have lb2:=zd hb2;have lb3:=zd hb3;refine Cl.ip rfl (zuJ rfl) fun Ψ hΨ=> ?_;simp[hi,li,ha,la,hb1,lb1,hb2,lb2,hb3,lb3];refine zb.go (zri hr hI c y n) (fun x hx e=> .inr (by rw[e];simp[Eo.ids])) ?_;rintro u g' ⟨rfl,hR,hU⟩;simp;exact Gh.here (hΨ _ _ ⟨rfl,hP.setR hU.sam hR,hU.sam.mono fun j e=>by rw[e];simp[Eo.ids]⟩)
theorem zqp{g:XH}{o:Eo}{e:Ent}(h:EntP g o e)(hL:StaL e.first e.touched)(hI:Q2 e.s.reg)(c y n:Int):Cl C (fun x=>x∈o.ids) 71 [.s (.ptr o.i 0 0),fi c,fi y,fi n] g fun u g'=>u=fi (zz e (zhO e.s c y n)).1∧EntP g' o (zz e (zhO e.s c y n)).2∧Sam (fun x=>x∈o.ids) g g':=by refine Cl.ip rfl (zuJ rfl) fun Ψ hΨ=> ?_;simp;refine zb.go (ZI (g:=g++[.own 0 45 1 [.ptr o.i 0 0],.own 0 3 1 [xi c],.own 0 3 1 [xi y],.own 0 3 1 [xi n],.clo 142 [] [.s (.ptr g.length 0 0),.s (.ptr (g.length+1) 0 0),.s (.ptr (g.length+2) 0 0),.s (.ptr (g.length+3) 0 0)]]) h.app hL (k:=g.length+4) (f:=142) (a:=[]) (b:=[.s (.ptr g.length 0 0),.s (.ptr (g.length+1) 0 0),.s (.ptr (g.length+2) 0 0),.s (.ptr (g.length+3) 0 0)]) (by simp) (zhO e.s c y n) (ztK h.app hI (a:=g.length) (b1:=g.length+1) (b2:=g.length+2) (b3:=g.length+3) (by simp) (by simp) (by simp) (by simp))) (fun x hx e=> .inr e) ?_;rintro u g' ⟨rfl,hE,hS⟩;simp;exact zad hE hS h.lt (by simp) fun G h1 h2=>hΨ _ _ ⟨rfl,h2,h1⟩
def zid(s:Sta)(c y c2 y2 n:Int):Int×Sta:=((z7 s.reg c y c2 y2 n).1,{s with reg:=(z7 s.reg c y c2 y2 n).2})
theorem zmf{g:XH}{o:Eo}{e:Ent}(h:EntP g o e)(hI:Q2 e.s.reg){a b1 b2 b3 b4 b5:Nat}{c y c2 y2 n:Int}(ha:g[a]? =some (.own 0 45 1 [.ptr o.i 0 0]))(hb1:g[b1]? =some (.own 0 3 1 [xi c]))(hb2:g[b2]? =some (.own 0 3 1 [xi y]))(hb3:g[b3]? =some (.own 0 3 1 [xi c2]))(hb4:g[b4]? =some (.own 0 3 1 [xi y2]))(hb5:g[b5]? =some (.own 0 3 1 [xi n])):Cl C (fun x=>x∈o.ids) 144 [.s (.ptr a 0 0),.s (.ptr b1 0 0),.s (.ptr b2 0 0),.s (.ptr b3 0 0),.s (.ptr b4 0 0),.s (.ptr b5 0 0)] g fun u g'=>u=fi (zid e.s c y c2 y2 n).1∧EntP g' o {e with s:=(zid e.s c y c2 y2 n).2}∧Sam (fun x=>x∈o.ids) g g':=by have hP:=h;obtain⟨nd,⟨w,wf,junk,h0,hi,hc,hf⟩,hst,hr⟩:=h;have li:=zd hi;have la:=zd ha;have lb1:=zd hb1;have lb2:=zd hb2;have lb3:=zd hb3;have lb4:=zd hb4;have lb5:=zd hb5;refine Cl.ip rfl (zuJ rfl) fun Ψ hΨ=> ?_;simp[hi,li,ha,la,hb1,lb1,hb2,lb2,hb3,lb3,hb4,lb4,hb5,lb5];refine zb.go (zjL hr hI c y c2 y2 n) (fun x hx e=> .inr (by rw[e];simp[Eo.ids])) ?_;rintro u g' ⟨rfl,hR,hU⟩;simp;exact Gh.here (hΨ _ _ ⟨rfl,hP.setR hU.sam hR,hU.sam.mono fun j e=>by rw[e];simp[Eo.ids]⟩)
theorem zi7{g:XH}{o:Eo}{e:Ent}(h:EntP g o e)(hL:StaL e.first e.touched)(hI:Q2 e.s.reg)(c y c2 y2 n:Int):Cl C (fun x=>x∈o.ids) 72 [.s (.ptr o.i 0 0),fi c,fi y,fi c2,fi y2,fi n] g fun u g'=>u=fi (zz e (zid e.s c y c2 y2 n)).1∧EntP g' o (zz e (zid e.s c y c2 y2 n)).2∧Sam (fun x=>x∈o.ids) g g':=by refine Cl.ip rfl (zuJ rfl) fun Ψ hΨ=> ?_;simp;refine zb.go (ZI (g:=g++[.own 0 45 1 [.ptr o.i 0 0],.own 0 3 1 [xi c],.own 0 3 1 [xi y],.own 0 3 1 [xi c2],.own 0 3 1 [xi y2],.own 0 3 1 [xi n],.clo 144 [] [.s (.ptr g.length 0 0),.s (.ptr (g.length+1) 0 0),.s (.ptr (g.length+2) 0 0),.s (.ptr (g.length+3) 0 0),.s (.ptr (g.length+4) 0 0),.s (.ptr (g.length+5) 0 0)]]) h.app hL (k:=g.length+6) (f:=144) (a:=[]) (b:=[.s (.ptr g.length 0 0),.s (.ptr (g.length+1) 0 0),.s (.ptr (g.length+2) 0 0),.s (.ptr (g.length+3) 0 0),.s (.ptr (g.length+4) 0 0),.s (.ptr (g.length+5) 0 0)]) (by simp) (zid e.s c y c2 y2 n) (zmf h.app hI (a:=g.length) (b1:=g.length+1) (b2:=g.length+2) (b3:=g.length+3) (b4:=g.length+4) (b5:=g.length+5) (by simp) (by simp) (by simp) (by simp) (by simp) (by simp))) (fun x hx e=> .inr e) ?_;rintro u g' ⟨rfl,hE,hS⟩;simp;exact zad hE hS h.lt (by simp) fun G h1 h2=>hΨ _ _ ⟨rfl,h2,h1⟩
def zbu(s:Sta)(r:Int):Int×Sta:=if zn r then(0,{s with judge:=r}) else(1,s)
theorem zqH{g:XH}{o:Eo}{e:Ent}(h:EntP g o e){a b:Nat}{n:Int}(ha:g[a]? =some (.own 0 45 1 [.ptr o.i 0 0]))(hb:g[b]? =some (.own 0 3 1 [xi n])):Cl C (fun x=>x∈o.ids) 146 [.s (.ptr b 0 0),.s (.ptr a 0 0)] g fun u g'=>u=fi (zbu e.s n).1∧EntP g' o {e with s:=(zbu e.s n).2}∧Sam (fun x=>x∈o.ids) g g':=by
 have hP:=h;obtain⟨nd,⟨w,wf,junk,h0,hi,hc,hf⟩,hst,hr⟩:=h;have li:=zd hi;have la:=zd ha;have lb:=zd hb;refine Cl.ip rfl (zuJ rfl) fun Ψ hΨ=> ?_;simp[hi,li,ha,la,hb,lb];refine zb.pure (Zc ..) ?_;simp;refine zc (fun c1=> ?_) (fun c1=> ?_)
 ·simp[hi,li,ha,la,hb,lb];have hS:=hP.setS hi {e.s with judge:=n} rfl rfl;have e1:zbu e.s n=(0,{e.s with judge:=n}):=by simp[zbu,c1]
  exact⟨.inr (by simp[Eo.ids]),Gh.here (hΨ _ _ (by rw[e1];exact⟨rfl,hS,Sam.set (by simp[Eo.ids]) _⟩))⟩
 ·simp;exact Gh.here (hΨ _ _ (by simp only[zbu,c1,if_false,zvg];exact⟨trivial,hP,Sam.refl⟩))
theorem znz{g:XH}{o:Eo}{e:Ent}(h:EntP g o e)(hL:StaL e.first e.touched)(n:Int):Cl C (fun x=>x∈o.ids) 73 [.s (.ptr o.i 0 0),fi n] g fun u g'=>u=fi (zz e (zbu e.s n)).1∧EntP g' o (zz e (zbu e.s n)).2∧Sam (fun x=>x∈o.ids) g g':=by refine Cl.ip rfl (zuJ rfl) fun Ψ hΨ=> ?_;simp;refine zb.go (ZI (g:=g++[.own 0 45 1 [.ptr o.i 0 0],.own 0 3 1 [xi n],.clo 146 [] [.s (.ptr (g.length+1) 0 0),.s (.ptr g.length 0 0)]]) h.app hL (k:=g.length+2) (f:=146) (a:=[]) (b:=[.s (.ptr (g.length+1) 0 0),.s (.ptr g.length 0 0)]) (by simp) (zbu e.s n) (zqH h.app (a:=g.length) (b:=g.length+1) (by simp) (by simp))) (fun x hx e=> .inr e) ?_;rintro u g' ⟨rfl,hE,hS⟩;simp;exact zad hE hS h.lt (by simp) fun G h1 h2=>hΨ _ _ ⟨rfl,h2,h1⟩
def zbg(s:Sta)(m l:Int):Int×Sta:=if JP m l then(0,{s with cap:=m,life:=l}) else(1,s)
theorem zsV{g:XH}{o:Eo}{e:Ent}(h:EntP g o e){a b c:Nat}{m l:Int}(ha:g[a]? =some (.own 0 45 1 [.ptr o.i 0 0]))(hb:g[b]? =some (.own 0 3 1 [xi m]))(hc':g[c]? =some (.own 0 3 1 [xi l])):Cl C (fun x=>x∈o.ids) 147 [.s (.ptr b 0 0),.s (.ptr c 0 0),.s (.ptr a 0 0)] g fun u g'=>u=fi (zbg e.s m l).1∧EntP g' o {e with s:=(zbg e.s m l).2}∧Sam (fun x=>x∈o.ids) g g':=by
 have hP:=h;obtain⟨nd,⟨w,wf,junk,h0,hi,hc,hf⟩,hst,hr⟩:=h;have li:=zd hi;have la:=zd ha;have lb:=zd hb;have lc:=zd hc';refine Cl.ip rfl (zuJ rfl) fun Ψ hΨ=> ?_;simp[hi,li,ha,la,hb,lb,hc',lc];refine zb.pure (zsn ..) ?_;simp;refine zc (fun c1=> ?_) (fun c1=> ?_)
 ·simp;have na:¬a=o.i:=by rintro rfl;rw[hi] at ha;simp at ha
  have nb:¬b=o.i:=by rintro rfl;rw[hi] at hb;simp at hb
  have nc:¬c=o.i:=by rintro rfl;rw[hi] at hc';simp at hc'
  refine zdc 4 8 [0,1,2] (fun x=>x=o.i) (by decide) (by decide) (by decide) ?_;simp only[zu8,zvE,zvj,zve];simp[hi,li,ha,la,hb,lb,hc',lc,na,nb,nc,Ne.symm na,Ne.symm nb,Ne.symm nc];have hS:=hP.setS hi {e.s with cap:=m,life:=l} rfl rfl;have e1:zbg e.s m l=(0,{e.s with cap:=m,life:=l}):=by simp[zbg,c1]
  exact⟨.inr (by simp[Eo.ids]),Gh.here (hΨ _ _ (by rw[e1];exact⟨rfl,hS,Sam.set (by simp[Eo.ids]) _⟩))⟩
 ·simp;exact Gh.here (hΨ _ _ (by simp only[zbg,c1,if_false,zvg];exact⟨trivial,hP,Sam.refl⟩))
theorem zqn{g:XH}{o:Eo}{e:Ent}(h:EntP g o e)(hL:StaL e.first e.touched)(m l:Int):Cl C (fun x=>x∈o.ids) 74 [.s (.ptr o.i 0 0),fi m,fi l] g fun u g'=>u=fi (zz e (zbg e.s m l)).1∧EntP g' o (zz e (zbg e.s m l)).2∧Sam (fun x=>x∈o.ids) g g':=by refine Cl.ip rfl (zuJ rfl) fun Ψ hΨ=> ?_;simp;refine zb.go (ZI (g:=g++[.own 0 45 1 [.ptr o.i 0 0],.own 0 3 1 [xi m],.own 0 3 1 [xi l],.clo 147 [] [.s (.ptr (g.length+1) 0 0),.s (.ptr (g.length+2) 0 0),.s (.ptr g.length 0 0)]]) h.app hL (k:=g.length+3) (f:=147) (a:=[]) (b:=[.s (.ptr (g.length+1) 0 0),.s (.ptr (g.length+2) 0 0),.s (.ptr g.length 0 0)]) (by simp) (zbg e.s m l) (zsV h.app (a:=g.length) (b:=g.length+1) (c:=g.length+2) (by simp) (by simp) (by simp))) (fun x hx e=> .inr e) ?_;rintro u g' ⟨rfl,hE,hS⟩;simp;exact zad hE hS h.lt (by simp) fun G h1 h2=>hΨ _ _ ⟨rfl,h2,h1⟩
theorem idxI{g:XH}{v:XV}{l:List Int}(hr:RdX g 3 1 zR v l)(hl:l.length≤100000)(p:Int):Cl C (fun _=>False) 271 [.s v,fi p] g fun u g'=>u=fi (ym (fun x=>x==p) 0 l)∧g'=g:=by
 refine Cl.ip rfl (zuJ rfl) fun Ψ hΨ=> ?_;simp[hr.len];refine Lp.genU (σ:=Unit) l.length (fun k _=>[(8,fi k)]) (fun _ _=>g) (fun k _=>ym (fun x=>x==p) k (l.drop k)=ym (fun x=>x==p) 0 l) () (by decide) rfl (by simp) rfl rfl ?_ ?_
 ·rintro q hq ⟨⟩ hi hlt N hN;obtain⟨p2,cs2,o2,c1,c2,c3,c4⟩:=hr.at1 zG (k:=q) hq;rw[zvt hq,ym] at hi;simp[l271_0,hq,c1,c2,c3,c4,zR];refine zc (fun hc=> ?_) (fun hc=> ?_)
  ·simp at hc;simp;exact Gh.here (hΨ _ _ ⟨by rw[zuT (by simp[←hc])] at hi;rw[←hi],rfl⟩)
  ·simp at hc;rw[zuV (by simpa using fun e=>hc e.symm)] at hi;simp[yB hq (by omega)];exact qG () hN hi (by simp) (by simpa using hlt)
 ·rintro⟨⟩ hi;rw[zwP (zuQ _),ym] at hi;simp[l271_0];exact Gh.here (hΨ _ _ ⟨by rw[←hi],rfl⟩)
theorem conI{g:XH}{v:XV}{l:List Int}(hr:RdX g 3 1 zR v l)(hl:l.length≤100000)(p:Int):Cl C (fun _=>False) 214 [.s v,fi p] g fun u g'=>u=fb (l.contains p)∧g'=g:=by
 refine Cl.ip rfl (zuJ rfl) fun Ψ hΨ=> ?_;simp;refine zb.go0 (idxI hr hl p) ?_;simp;refine Gh.here (hΨ _ _ ⟨?_,rfl⟩);have h1:=zbn (fun x=>x==p) 0 l;have h2:l.any (fun x=>x==p)=l.contains p:=by rw[List.contains_eq_any_beq];congr 1;funext x;exact Bool.beq_comm
 rw[h2] at h1;cases h:l.contains p with
 |true=>simp[h1.2 h]
 |false=>
  have:¬ym (fun x=>x==p) 0 l≥0:=fun h'=>by rw[h1.1 h'] at h;cases h
  simp;omega
def qR(e:Ent)(p:Int):Option Pro:=if p<e.first then none else(e.cs[(p-e.first).toNat]?).map (·.p)
def zfd(q:Option Pro):XF:= .tup [.agg (zC (q.getD zt)),fb q.isSome]
theorem subX{X cs:List XV}{o z a n:Nat}(h:(X.drop o).take z=cs)(hn:a+n≤z):(X.drop (o+a)).take n=(cs.drop a).take n:=by subst h;rw[zw6,zwN,zvD (by omega),zw5]
theorem zng{l:List Clo}{junk:List XV}{q:Nat}(h:q<l.length):q*50+50≤(l.flatMap yf++junk).length∧((l.flatMap yf++junk).drop (q*50)).take 50=yf l[q]:=by
 have h1:(l.flatMap yf).length=l.length*50:=zf qW l;obtain⟨a1,a2,_⟩:=atX qW h;have h2:q*50+50≤l.length*50:=by omega
 refine⟨by rw[zuR];omega,?_⟩;rw[zxF (by omega),zw4 (by rw[zvY];omega)];exact a2
theorem cloP(c:Clo):((yf c).drop 8).take 41=zC c.p:=by have h:=Y3 c.p;show(zC c.p++[xi c.seq]).take 41=_;rw[zw4 (by omega),zvG (by omega)]
theorem cloC(c:Clo):((yf c).drop 25).take 8=zi c.p.cl:=by simp[yf,zC,pC,zP,zi,zD]
theorem Y4{g:XH}{o:Eo}{e:Ent}(h:EntP g o e)(hL:EntL e)(p:Int)(hp:p≤9223372036854775807):Cl C (fun _=>False) 32 [.s (.ptr o.i 0 0),fi p] g fun u g'=>u=zfd (qR e p)∧g'=g:=by
 obtain⟨nd,⟨w,wf,junk,h0,hi,hc,hf⟩,hst,hr⟩:=h;have li:=zd hi;have lc:=zd hc;have hfs:=hL.st.p;simp[zl] at hfs;refine Cl.ip rfl (zuJ rfl) fun Ψ hΨ=> ?_;simp[hi,li];have bad:∀J,qR e p=none→Gh (fun _=>False) g Ψ (.tup [.agg YX,fb false]) (g++J):=fun J h=>Gh.pure (.t2 (.agg zku) (.s (.lt (by simp)))) (hΨ _ _ ⟨by rw[h];rfl,rfl⟩);refine zc (fun c1=> ?_) (fun c1=> ?_)
 ·simp at c1;simp;exact bad _ (by simp[qR,c1])
 simp at c1;obtain⟨q,hq⟩:∃q:Nat,p-e.first=(q:Int):=⟨(p-e.first).toNat,by omega⟩
 have hw:IntKind.i64.wrap (p-e.first)=(q:Int):=by rw[hq];exact ze (by omega) (by omega)
 have hP:qR e p=(e.cs[q]?).map (·.p):=by simp[qR,show¬p<e.first by omega,hq]
 simp[hw,hi,li];refine zc (fun c2=> ?_) (fun c2=> ?_)
 ·simp at c2;simp;exact bad _ (by rw[hP];simp[c2])
 simp at c2;obtain⟨x1,x2⟩:=zng (junk:=junk) c2;obtain⟨hc1,_,hc2,hc3,_⟩:=hL.cs _ (zvi c2);rw[zuY c2,zvf] at hP;generalize e.cs[q]=c at *;have x3:=subX (a:=8) (n:=41) x2 (by decide);simp only[cloP] at x3;generalize e.cs.flatMap yf++junk=X at *;simp[hi,li,c2,hc,lc,x3,show q*50+8+41≤X.length by omega,show¬X=[] from fun e=>by rw[e] at x1;simp at x1];refine zb.go0 (zjD hc1) ?_;simp[zC,pC,zP,zi,zD];exact Gh.pure (u':= .tup [.agg (zC c.p),fb true]) (.t2 (.agg (.lts (Qy _ c.p))) (.s (.lt (by simp)))) (hΨ _ _ ⟨by rw[hP];rfl,rfl⟩)
def qE(e:Ent):Bal:=match e.cs.getLast? with
 |some c=>c.p.cl
 |none=>yX
theorem zi6{g:XH}{o:Eo}{e:Ent}(h:EntP g o e)(hL:EntL e):Cl C (fun _=>False) 151 [.s (.ptr o.i 0 0)] g fun u g'=>u= .agg (zi (qE e))∧g'=g:=by
 obtain⟨nd,⟨w,wf,junk,h0,hi,hc,hf⟩,hst,hr⟩:=h;have li:=zd hi;have lc:=zd hc;have hll:=hL.cl;have hlh:=hL.st.hi;refine Cl.ip rfl (zuJ rfl) fun Ψ hΨ=> ?_;simp[hi,li];refine zc (fun c1=> ?_) (fun c1=> ?_)
 ·simp at c1;simp;refine zb.go0 zp6 ?_;simp[zi];exact Gh.pure (u':= .agg (zi yX)) (.agg (.lts (Qw _ _))) (hΨ _ _ ⟨by simp[qE,c1],rfl⟩)
 ·simp at c1;have c2:e.cs.length-1<e.cs.length:=by have:=List.length_pos_iff.2 c1;omega
  have e1:qE e=e.cs[e.cs.length-1].p.cl:=by simp[qE,zxk,zuY c2]
  have hw:IntKind.i64.wrap ((e.cs.length:Int)-1)=((e.cs.length-1:Nat):Int):=by rw[ze (by omega) (by omega)];omega
  obtain⟨x1,x2⟩:=zng (junk:=junk) c2;have x3:=subX (a:=25) (n:=8) x2 (by decide);rw[cloC] at x3;rw[←e1] at x3;clear e1 x2;generalize e.cs.flatMap yf++junk=X at *;generalize e.cs.length-1=q at *;simp[zi,hi,li,hc,lc,hw,c2,x3,show q*50+25+8≤X.length by omega,show¬X=[] from fun e=>by rw[e] at x1;simp at x1];exact Gh.pure (u':= .agg (zi (qE e))) (.agg (.lts (Qw _ _))) (hΨ _ _ ⟨rfl,rfl⟩)
def jC(e:Ent)(p n:Int):Int×Sta:=
 match qR e p with
 |none=>(3,e.s)
 |some q=>
  if e.s.filed.contains p then(4,e.s)
  else if(qS n q.rate q.cur.tax).2≠0 then((qS n q.rate q.cur.tax).2,e.s)
  else if(qv e.s.up (qS n q.rate q.cur.tax).1).1≠0 then((qv e.s.up (qS n q.rate q.cur.tax).1).1,e.s)
  else(0,{e.s with up:=(qv e.s.up (qS n q.rate q.cur.tax).1).2,filed:=e.s.filed++[p]})
theorem QG{e:Ent}{p:Int}{q:Pro}(h:qR e p=some q):∃c∈e.cs,c.p=q:=by
 unfold qR at h;split at h
 ·simp at h
 ·rw[zuM] at h;obtain⟨c,h1,h2⟩:=h;exact⟨c,zvy h1,h2⟩
theorem EntP.setF{g:XH}{o:Eo}{e:Ent}(h:EntP g o e){w wf:Nat}(hi:g[o.i]? =some (.own 0 108 14 (zck e o w wf)))(s':Sta){p:Int}(hf:s'.filed=e.s.filed++[p])(hr:s'.reg=e.s.reg){G:XH}(h1:G[o.i]? =some (.own 0 108 14 (zck {e with s:=s'} o w (wf+1))))(h2:G[o.f]? =some (.own (wf+1) 3 1 (s'.filed.flatMap zR)))(hs:Sam (fun x=>x=o.i∨x=o.f) g G):EntP G o {e with s:=s'}:=by
 obtain⟨nd,⟨w',wf',junk,h0,k1,k2,k3⟩,⟨w2,j2,h4,h5,h6⟩,h7⟩:=h;have n:=nd;simp[Eo.ids] at n;have e1:=k1.symm.trans hi;simp at e1;obtain⟨rfl,rfl⟩:wf'=wf∧w'=w:=e1;have h7:g[o.r]? =_:=h7;refine⟨nd,⟨w',wf'+1,junk,h0,h1,?_,h2⟩,⟨w2,j2,h4,?_,?_⟩,?_⟩
 ·rw[hs.same _ (by omega)];exact k2
 ·rw[hs.same _ (by omega)];exact h5
 ·rw[hs.same _ (by omega)];exact h6
 ·show G[o.r]? =_;rw[hs.same _ (by omega),h7];simp only[hr]
theorem zcQ(s n:Int):(qv s n).1≠0→(qv s n).2=s:=by
 unfold qv;split
 ·intro _;rfl
 ·split
  ·intro _;rfl
  ·intro h;exact absurd rfl h
theorem zny{g:XH}{o:Eo}{e:Ent}(h:EntP g o e)(hL:EntL e)(p n:Int)(hp:p≤9223372036854775807):Cl C (fun x=>x∈o.ids) 149 [.s (.ptr o.i 0 0),fi p,fi n] g fun u g'=>u=fi (jC e p n).1∧EntP g' o {e with s:=(jC e p n).2}∧Sam (fun x=>x∈o.ids) g g':=by
 have hP:=h;obtain⟨nd,⟨w,wf,junk,h0,hi,hc,hf⟩,hst,hr⟩:=h;have li:=zd hi;have lf:=zd hf;have hfl:=hL.fl;have hlt:=hP.lt;have nn:=nd;simp[Eo.ids] at nn;refine Cl.ip rfl (zuJ rfl) fun Ψ hΨ=> ?_;have bad:∀x J,jC e p n=(x,e.s)→Gh (fun x=>x∈o.ids) g Ψ (fi x) (g++J):=fun x J h=>Gh.pure .i (hΨ _ _ ⟨by rw[h],by rw[h];exact hP,Sam.refl⟩);simp;refine zb.go0 (Y4 hP hL p hp) ?_;rcases hq:qR e p with _|q
 ·simp[zfd,zC,pC,zP,zi,zD];exact bad 3 _ (by simp[jC,hq])
 ·have hq2:jC e p n=if e.s.filed.contains p then(4,e.s)
   else if(qS n q.rate q.cur.tax).2≠0 then((qS n q.rate q.cur.tax).2,e.s)
   else if(qv e.s.up (qS n q.rate q.cur.tax).1).1≠0 then((qv e.s.up (qS n q.rate q.cur.tax).1).1,e.s)
   else(0,{e.s with up:=(qv e.s.up (qS n q.rate q.cur.tax).1).2,filed:=e.s.filed++[p]}):=by
   unfold jC;rw[hq]
  obtain⟨c,hc1,hc2⟩:=QG hq;have htx:=(hL.cs c hc1).2.2.2.2;rw[hc2] at htx;simp[zfd,zC,pC,zP,zi,zD,hi,li];refine zb.go0 (conI (RdX.sl zG hf).app (by omega) p) ?_;simp;refine zc (fun c1=> ?_) (fun c1=> ?_)
  ·simp at c1;simp;exact bad 4 _ (by rw[hq2,zuT (by simpa using c1)])
  rw[zuV (by simpa using c1)] at hq2;simp;refine zb.pure (trueX n q.rate q.cur.tax htx) ?_;generalize qS n q.rate q.cur.tax=v at *;obtain⟨v,er⟩:=v;simp;refine zc (fun c2=> ?_) (fun c2=> ?_)
  ·simp at c2;simp;exact bad er _ (by rw[hq2,zuT c2])
  simp at c2;rw[zuV (by simpa using c2)] at hq2;simp[hi,li];refine zb.go (zi5 (off:=8) (t:=108) (z:=14) (cs:=zck e o w wf) (by rw[zq li];exact hi) (s:=e.s.up) rfl v) (fun x hx ee=> .inr (by rw[ee];simp[Eo.ids])) ?_;rintro u g' ⟨rfl,rfl⟩;have ha:=zcQ e.s.up v;generalize qv e.s.up v=a at *;obtain⟨a1,a2⟩:=a;simp at ha;have hne:¬o.i=o.f:=by omega
  have hne':¬o.f=o.i:=by omega
  simp[li,hi];refine zc (fun c3=> ?_) (fun c3=> ?_)
  ·simp at c3;simp;have e2:=yZ hi;simp at e2;rw[ha c3,e2];exact bad a1 _ (by rw[hq2,zuT (by simpa using c3)])
  simp at c3;rw[zuV (by simpa using c3)] at hq2;simp[li,hi,hf,lf,hne,hne',show(e.s.filed.length+1)*8≤140737488355328 by omega];have hfll:(e.s.filed.flatMap zR).length=e.s.filed.length:=by rw[zf zG,zxZ]
  refine⟨.inr (by simp[Eo.ids]),?_⟩;simp[li,lf,hne,hne',hfll];refine⟨.inr (by simp[Eo.ids]),?_⟩;have hS:∀A B D,Sam (fun x=>x=o.i∨x=o.f) g (((g.set o.i A).set o.f B).set o.i D):=fun A B D=>((Sam.set (.inl rfl) _).trans (Sam.set (.inr rfl) _)).trans (Sam.set (.inl rfl) _);have hE:∀A,EntP (((g.set o.i A).set o.f (.own (wf+1) 3 1 (e.s.filed.flatMap zR++[xi p]))).set o.i (.own 0 108 14 (zck {e with s:={e.s with up:=a2,filed:=e.s.filed++[p]}} o w (wf+1)))) o {e with s:={e.s with up:=a2,filed:=e.s.filed++[p]}}:=fun A=>hP.setF hi {e.s with up:=a2,filed:=e.s.filed++[p]} (p:=p) rfl rfl (zu2 (by simp;exact li)) (by rw[zuU hne,zu2 (by simp;exact lf)];simp) (hS _ _ _);have hS2:∀A B D,Sam (fun x=>x∈o.ids) g (((g.set o.i A).set o.f B).set o.i D):=fun A B D=>(hS A B D).mono fun j hj=>by rcases hj with rfl|rfl<;>simp[Eo.ids]
  have hE2:=hE (.own 0 108 14 (zck {e with s:={e.s with up:=a2}} o w wf));simp at hE2;refine qX (hE2.upd (hS2 _ _ _)) (by simp) (hΨ _ _ ⟨by rw[hq2],by rw[hq2];exact hE2,hS2 _ _ _⟩)
theorem zti{g:XH}{o:Eo}{e:Ent}(h:EntP g o e)(hL:EntL e){a b c:Nat}{p n:Int}(hp:p≤9223372036854775807)(ha:g[a]? =some (.own 0 45 1 [.ptr o.i 0 0]))(hb:g[b]? =some (.own 0 3 1 [xi p]))(hc:g[c]? =some (.own 0 3 1 [xi n])):Cl C (fun x=>x∈o.ids) 148 [.s (.ptr a 0 0),.s (.ptr b 0 0),.s (.ptr c 0 0)] g fun u g'=>u=fi (jC e p n).1∧EntP g' o {e with s:=(jC e p n).2}∧Sam (fun x=>x∈o.ids) g g':=by have la:=zd ha;have lb:=zd hb;have lc:=zd hc;refine Cl.ip rfl (zuJ rfl) fun Ψ hΨ=> ?_;simp[ha,la,hb,lb,hc,lc];refine zb.go (zny h hL p n hp) (fun x hx e=> .inr e) ?_;rintro u g' ⟨rfl,h1,h2⟩;simp;exact Gh.here (hΨ _ _ ⟨rfl,h1,h2⟩)
theorem zqo{g:XH}{o:Eo}{e:Ent}(h:EntP g o e)(hL:EntL e)(t:XV)(p n:Int)(hp:p≤9223372036854775807):Cl C (fun x=>x∈o.ids) 75 [.s (.ptr o.i 0 0),.s t,fi p,fi n] g fun u g'=>u=fi (zz e (jC e p n)).1∧EntP g' o (zz e (jC e p n)).2∧Sam (fun x=>x∈o.ids) g g':=by refine Cl.ip rfl (zuJ rfl) fun Ψ hΨ=> ?_;simp;refine zb.go (ZI (g:=g++[.own 0 45 1 [.ptr o.i 0 0],.own 0 3 1 [xi p],.own 0 3 1 [xi n],.clo 148 [] [.s (.ptr g.length 0 0),.s (.ptr (g.length+1) 0 0),.s (.ptr (g.length+2) 0 0)]]) h.app hL.st (k:=g.length+3) (f:=148) (a:=[]) (b:=[.s (.ptr g.length 0 0),.s (.ptr (g.length+1) 0 0),.s (.ptr (g.length+2) 0 0)]) (by simp) (jC e p n) (zti h.app hL (a:=g.length) (b:=g.length+1) (c:=g.length+2) hp (by simp) (by simp) (by simp))) (fun x hx e=> .inr e) ?_;rintro u g' ⟨rfl,hE,hS⟩;simp;exact zad hE hS h.lt (by simp) fun G h1 h2=>hΨ _ _ ⟨rfl,h2,h1⟩
theorem zfs{l:List Vi}(hI:LosI l)(book perm moved cap life year r:Int){res:Res}{left:List Vi}(h:ZA l book perm moved cap life year r=(0,res,left)):res.vec.length≤12∧za res.tax=true:=by
 unfold ZA at h;split at h
 ·simp at h
 rename_i k1;split at h
 ·simp at h
 rename_i k2;have hr:zn r=true:=by
  cases hh:zn r with
  |true=>rfl
  |false=>exact absurd (.inr (.inl (by simp[hh]))) k1
 simp[zn] at hr;have hk:=hI.kept year;have hkl:=hk.len;have hnm:za (book+perm-moved)=true:=by simp[Jy,Jz] at k2;rw[zxt,zxY];exact k2.2.2.2.2
 generalize book+perm-moved=n at *;have hroom:=Qh n cap hnm;have h0:za (zg 0 r)=true:=by have:=Qe (n:=0) (r:=r) (by omega) (by omega);simp[za];omega
 simp only at h;split at h
 ·rename_i hn;have hv3:=YW year (yz year l) (jD n cap);have hv2:=za8 year (yz year l) (jD n cap) hroom.1 (fun v hv=>(hk.m v hv).1);have h3:=hroom.2.2 (by omega);simp only[zuL,true_and] at h;obtain⟨rfl,rfl⟩:=h;refine⟨by simp only;omega,?_⟩;simp[za] at hnm;have:=Qe (n:=n-(qa year (jD n cap) (yz year l)).sum) (r:=r) (by omega) (by omega);simp[za];omega
 ·split at h
  ·split at h
   ·simp only[zuL,true_and] at h;obtain⟨rfl,rfl⟩:=h;exact⟨by simp,h0⟩
   ·rename_i hh;simp only[zuL] at h;exact absurd h.1 hh
  ·simp only[zuL,true_and] at h;obtain⟨rfl,rfl⟩:=h;exact⟨by simp,h0⟩
theorem zdM(l:List Li):(j7 l).length≤7:=by unfold j7;refine zvB (zwd _ _) ?_;simp
theorem zdJ(t:List Rw)(inp:Inp){op:Bal}(hop:BalL op){l:List Vi}(hI:LosI l){rows:List Bu}(hrl:rows.length≤400)(he:(ju t inp op l rows).1=0):(ProC (ju t inp op l rows).2.1∧ProL (ju t inp op l rows).2.1∧za (ju t inp op l rows).2.1.cur.tax=true)∧(j6 (ju t inp op l rows).2.1).length≤1000∧LosI (ju t inp op l rows).2.2:=by
 suffices h:∀m,ju t inp op l rows=m→m.1=0→(ProC m.2.1∧ProL m.2.1∧za m.2.1.cur.tax=true)∧LosI m.2.2 by
  obtain⟨h1,h2⟩:=h _ rfl he;refine⟨h1,?_,h2⟩;unfold j6;split
  ·have:=zdM (Jc (ju t inp op l rows).2.1);omega
  ·simp
 intro m hm h0;unfold ju at hm;split at hm
 ·subst hm;simp at h0
 split at hm
 ·subst hm;simp at h0
 rename_i r hr;split at hm
 ·subst hm;simp at h0
 split at hm
 ·subst hm;simp at h0
 rename_i rates hrt;have hl1:=ZS _ _ _ _ _ hrt;rw[zvc] at hl1;have hf:=Zx op.b rows;have hob:=hop.lb;simp only at hm;split at hm
 ·rename_i hne;subst hm;exact absurd h0 hne
 rename_i ht;simp only[ne_eq,Decidable.not_not] at ht;obtain⟨res,left,htx⟩:∃res left,ZA l inp.book inp.perm (J7 (zw op.b rows)) inp.cap inp.life (inp.p.tdiv 4) r=(0,res,left):=⟨_,_,by rw[←ht]⟩
 have hleft:=zlb hI _ _ _ _ _ _ _ htx;obtain⟨hv,htax⟩:=zfs hI _ _ _ _ _ _ _ htx;rw[htx] at hm;simp only at hm;split at hm
 ·rename_i hne;subst hm;exact absurd h0 hne
 split at hm
 ·rename_i hne;subst hm;exact absurd h0 hne
 split at hm
 ·rename_i hne;subst hm;exact absurd h0 hne
 split at hm
 ·subst hm;simp at h0
 rename_i now hnow;have hl2:=ZS _ _ _ _ _ hnow;rw[zvc] at hl2;split at hm
 ·rename_i hne;subst hm;exact absurd h0 hne
 split at hm
 ·subst hm;refine⟨⟨⟨hop,⟨by simp only;omega,by simp only;omega⟩,by simp only;omega,by simp only;omega,by simp only;omega⟩,⟨by simp only;omega,by simp only;omega,by simp only;omega,hop,⟨by simp only;omega,by simp only;omega⟩⟩,htax⟩,hleft⟩
 ·subst hm;simp at h0
theorem qb.old{g:XH}{i k:Nat}{l:List Jo}(h:qb g i k l){n:Nat}(hk:k<n):∀j,j=i∨j=k→∀x:XO,g[j]? =some x→lvO n x:=by
 obtain⟨w,h1,h2⟩:=h;rintro j (rfl|rfl) x hx
 ·rw[h1] at hx;cases hx;simp[lvO,hk]
 ·rw[h2] at hx;cases hx;simp[lvO]
theorem qb.sam{g G:XH}{i k:Nat}{l:List Jo}(h:qb g i k l)(h1:G[i]? =g[i]?)(h2:G[k]? =g[k]?):qb G i k l:=by obtain⟨w,a,b⟩:=h;exact⟨w,by rw[h1];exact a,by rw[h2];exact b⟩
theorem Sam.app{S:Nat→Prop}{g G:XH}(h:Sam S g G)(J:XH):Sam S (g++J) (G++J):=by
 refine⟨by simp[h.len],fun j hj=> ?_⟩;by_cases hl:j<g.length
 ·rw[zuO hl,zuO (by rw[h.len];exact hl),h.same j hj]
 ·have hgl:=h.len;rw[zuP (by omega),zuP (by omega),hgl]
abbrev esS(o:Eo)(si sk:Nat):Nat→Prop:=fun x=>x∈o.ids∨x=si∨x=sk
theorem zsp{W:Nat→Prop}{g J g':XH}{o:Eo}{e:Ent}{si sk:Nat}{js:List Jo}{u:XF}{Ψ:XF→XH→Prop}(h:EntP g' o e)(h2:qb g' si sk js)(hs:Sam (esS o si sk) (g++J) g')(hl:∀i∈o.ids,i<g.length)(l2:si<g.length)(l3:sk<g.length)(hu:lvF g.length u)(hp:∀G,Sam (esS o si sk) g G→EntP G o e→qb G si sk js→Ψ u G):Gh W g Ψ u g':=by
 obtain⟨G,rfl,h1⟩:=hs.cut (fun j hj=>hj.elim (hl j) fun hj=>hj.elim (fun e=>e▸l2) (fun e=>e▸l3));have k1:EntP G o e:=h.same fun i hi=>(zq (by rw[h1.len];exact hl i hi)).symm;have k2:qb G si sk js:=h2.sam (zq (by rw[h1.len];exact l2)).symm (zq (by rw[h1.len];exact l3)).symm;refine qX (S:=esS o si sk) ⟨h1.len,h1.same,fun j x hx=> ?_⟩ hu (hp G h1 k1 k2);by_cases hj:esS o si sk j
 ·rcases hj with hj|hj
  ·exact .inr (k1.old hl j hj x hx)
  ·exact .inr (k2.old l3 j hj x hx)
 ·rw[h1.same j hj] at hx;exact .inl hx
theorem zit{g:XH}{i k:Nat}{l:List Jo}(h:qb g i k l)(hne:i≠k)(hl:StoL l)(id:ByteArray)(p kind of:Int){v:XV}{ls:List Li}(hr:v=zjk ls)(hls:ls.length≤1000):Cl C (fun x=>x=i∨x=k) 152 [.s (.ptr i 0 0),fs id,fi p,fi kind,fi of,.s v] g fun u g'=>u= .tup [fi (y9 l id p kind of ls).1,fi (y9 l id p kind of ls).2.1]∧qb g' i k (y9 l id p kind of ls).2.2∧Sam (fun x=>x=i∨x=k) g g':=by
 have li:i<g.length:=by obtain⟨w,h1,_⟩:=h;exact zd h1
 have lk:k<g.length:=by obtain⟨w,_,h1⟩:=h;exact zd h1
 refine(zrx h hne hl id p kind of hr hls).mono ?_;rintro u g' ⟨rfl,w,rfl⟩;refine⟨rfl,⟨w,?_,?_⟩,(Sam.set (.inr rfl) _).trans (Sam.set (.inl rfl) _)⟩
 ·unfold zj2;rw[zu2 (by simp;exact li)]
 ·unfold zj2;rw[zuU hne,zu2 lk]
noncomputable def yr(t:List Rw)(js:List Jo)(e:Ent):Int×Ent×List Jo:=
 if¬zl (yt e.first e.touched)=true then(8,e,js)
 else
  let m:=ju t ⟨e.j,yt e.first e.touched,e.s.book,e.s.perm,e.s.judge,e.s.cap,e.s.life,e.s.up⟩ (qE e) e.s.l (zu ltB e.s.reg)
  if m.1≠0 then(m.1,e,js)
  else
   let q:=y9 js e.id (yt e.first e.touched) 1 0 (j6 m.2.1)
   if q.2.1≠0 then(q.2.1,e,q.2.2)
   else(0,{e with s:={e.s with book:=0,perm:=0,up:=0,l:=m.2.2},cs:=e.cs++[⟨e.s,m.2.1,q.1⟩],touched:=e.touched++[false]},q.2.2)
theorem zmb:BalL yX:=⟨by simp[yX],by simp[yX]⟩
theorem zcF{e:Ent}(hL:EntL e):BalL (qE e):=by
 unfold qE;split
 ·rename_i c h;exact(hL.cs c (zxH h)).1.cl
 ·exact zmb
theorem EntP.setC{G:XH}{o:Eo}{e:Ent}(h:EntP G o e){w wf:Nat}(hi:G[o.i]? =some (.own 0 108 14 (zck e o w wf)))(s':Sta)(hf:s'.filed=e.s.filed)(hr:s'.reg=e.s.reg)(c:Clo):EntP ((G.set o.c (.own (w+1) 159 50 ((e.cs++[c]).flatMap yf))).set o.i (.own 0 108 14 (zck {e with s:=s',cs:=e.cs++[c]} o (w+1) wf))) o {e with s:=s',cs:=e.cs++[c]}:=by
 obtain⟨nd,⟨w',wf',junk,h0,h1,h2,h3⟩,⟨w2,j2,h4,h5,h6⟩,h7⟩:=h;have n:=nd;simp[Eo.ids] at n;have li:=zd hi;have lc:=zd h2;have e1:=h1.symm.trans hi;simp at e1;obtain⟨rfl,rfl⟩:wf'=wf∧w'=w:=e1;have h7:G[o.r]? =_:=h7;refine⟨nd,⟨w'+1,wf',[],fun m=>by simp[zr],zu2 (by simp;exact li),?_,?_⟩,⟨w2,j2,h4,?_,?_⟩,?_⟩
 ·rw[zuU (by omega),zu2 lc,zvl]
 ·rw[zuU (by omega),zuU (by omega)];simp only[hf];exact h3
 ·rw[zuU (by omega),zuU (by omega)];exact h5
 ·rw[zuU (by omega),zuU (by omega)];exact h6
 ·show(List.set _ _ _)[o.r]? =_;rw[zuU (by omega),zuU (by omega),h7];simp only[hr]
theorem znx{g:XH}{o:Eo}{e:Ent}(h:EntP g o e)(hL:EntL e){ti tk:Nat}{t:List Rw}(ht:qO 145 140 g ti tk t)(htl:t.length≤1000){si sk:Nat}{js:List Jo}(hs:qb g si sk js)(hsl:StoL js)(hne:si≠sk)(hd:si∉o.ids∧sk∉o.ids):
 Cl C (esS o si sk) 76 [.s (.ptr o.i 0 0),.s (.ptr ti 0 0),.s (.ptr si 0 0)] g fun u g'=>u=fi (yr t js e).1∧EntP g' o (yr t js e).2.1∧qb g' si sk (yr t js e).2.2∧Sam (esS o si sk) g g':=by
 have hP:=h;obtain⟨nd,⟨w,wf,junk,h0,hi,hc,hf⟩,hst,hr⟩:=h;have li:=zd hi;have hlt:=hP.lt;have lsi:si<g.length:=by obtain⟨w,h1,_⟩:=hs;exact zd h1
 have lsk:sk<g.length:=by obtain⟨w,_,h1⟩:=hs;exact zd h1
 have lti:ti<g.length:=by obtain⟨w,h1,_⟩:=ht;exact zd h1
 have nn:=nd;simp[Eo.ids] at nn;refine Cl.ip rfl (zuJ rfl) fun Ψ hΨ=> ?_;simp[hi,li];refine zb.go0 (zcL hst hL.st) ?_;cases hp:zl (yt e.first e.touched) with
 |false=>
  simp;exact Gh.here (hΨ _ _ (by simp only[yr,hp];exact⟨rfl,hP,hs,Sam.refl⟩))
 |true=>
  generalize hop:yt e.first e.touched=p at *
  simp[hi,li]
  have hcl:yr t js e=if(ju t ⟨e.j,p,e.s.book,e.s.perm,e.s.judge,e.s.cap,e.s.life,e.s.up⟩ (qE e) e.s.l (zu ltB e.s.reg)).1≠0 then((ju t ⟨e.j,p,e.s.book,e.s.perm,e.s.judge,e.s.cap,e.s.life,e.s.up⟩ (qE e) e.s.l (zu ltB e.s.reg)).1,e,js)
   else
    let m:=ju t ⟨e.j,p,e.s.book,e.s.perm,e.s.judge,e.s.cap,e.s.life,e.s.up⟩ (qE e) e.s.l (zu ltB e.s.reg);let q:=y9 js e.id p 1 0 (j6 m.2.1)
    if q.2.1≠0 then(q.2.1,e,q.2.2)
    else(0,{e with s:={e.s with book:=0,perm:=0,up:=0,l:=m.2.2},cs:=e.cs++[⟨e.s,m.2.1,q.1⟩],touched:=e.touched++[false]},q.2.2):=by
   unfold yr;rw[hop,zuV (by simp[hp])]
  refine zy 13 [0,9] (fun _=>False) (by decide) (by decide) ?_;simp only[zu8,zvE,zvj,zve];simp[hi,li];refine zb.go0 (zi6 hP.app hL) ?_;simp[hi,li];have hM:=fun G (h1:qO 145 140 G ti tk t) (h2:Yp G o.r e.s.reg)=>zrb h1 htl ⟨e.j,p,e.s.book,e.s.perm,e.s.judge,e.s.cap,e.s.life,e.s.up⟩ (zcF hL) hL.lo h2 hL.rl hL.rd;have hok:=zdJ t ⟨e.j,p,e.s.book,e.s.perm,e.s.judge,e.s.cap,e.s.life,e.s.up⟩ (zcF hL) hL.lo (rows:=zu ltB e.s.reg) (by rw[zJ];exact hL.rl);generalize ju t ⟨e.j,p,e.s.book,e.s.perm,e.s.judge,e.s.cap,e.s.life,e.s.up⟩ (qE e) e.s.l (zu ltB e.s.reg)=m at *;obtain⟨er,x,ls⟩:=m;refine zb.go0 (hM _ ht.app hr.app) ?_;simp[zkJ,zC,pC,zP,zi,zD];refine zc (fun c1=> ?_) (fun c1=> ?_)
  ·simp at c1;simp;rw[zuT c1] at hcl;exact Gh.pure .i (hΨ _ _ (by rw[hcl];exact⟨rfl,hP,hs,Sam.refl⟩))
  simp at c1;rw[zuV (by simpa using c1)] at hcl;obtain⟨hx,hlen,_⟩:=hok c1;subst c1;dsimp only at hcl hx hlen;refine zy 8 [0,10] (fun _=>False) (by decide) (by decide) ?_;simp only[zu8,zvE,zvj,zve];simp[hi,li];refine zb.go0 (zaY x) ?_;simp[zC,pC,zP,zi,zD];refine zb.go (zit hs.app hne hsl e.id p 1 0 rfl hlen) (fun z hz ee=>⟨.inr (.inr ee),.inr trivial⟩) ?_;rintro u G ⟨rfl,hG,hS⟩;have hlx:=(Y3 x)
  have hGl:G.length=g.length+2:=by rw[hS.len];simp
  have hGj:∀j,j<g.length→j≠si→j≠sk→G[j]? =g[j]? :=fun j h1 h2 h3=>by rw[hS.same j (by simp[h2,h3]),zq h1]
  have hGx:G[g.length+1]? =some (.own 0 84 41 (zC x)):=by rw[hS.same _ (by omega)];simp[zC,pC,zP,zi,zD]
  have hGe:∀j∈o.ids,G[j]? =g[j]? :=fun j hj=>hGj j (hlt j hj) (fun ee=>hd.1 (ee▸hj)) (fun ee=>hd.2 (ee▸hj));have hPG:EntP G o e:=hP.same hGe;have hSG:=hS.mono (T:=esS o si sk) fun j ee=> .inr ee;have lGx:g.length+1<G.length:=by omega
  have li':o.i<G.length:=by omega
  have hi':G[o.i]? =_:=(hGe o.i (by simp[Eo.ids])).trans hi;have hc':G[o.c]? =_:=(hGe o.c (by simp[Eo.ids])).trans hc;have hf':G[o.f]? =_:=(hGe o.f (by simp[Eo.ids])).trans hf;have lc':=zd hc';generalize y9 js e.id p 1 0 (j6 x)=q at *;obtain⟨seq,pe,js'⟩:=q;simp;refine zc (fun c2=> ?_) (fun c2=> ?_)
  ·simp at c2;simp;rw[zuT (by simpa using c2)] at hcl;exact zsp hPG hG hSG hlt lsi lsk (by simp) fun G' h1 h2 h3=>hΨ _ _ (by rw[hcl];exact⟨rfl,h2,h3,h1⟩)
  simp at c2;rw[zuV (by simpa using c2)] at hcl;refine zy 12 [0,10] (fun _=>False) (by decide) (by decide) ?_;simp only[zu8,zvE,zvj,zve];simp[hi',li'];refine zb.go0 (zeT e.s (RdX.sl zG hf') hL.fl (by have:=hL.lo.len;omega)) ?_;simp[hGx,lGx,zC,pC,zP,zi,zD];refine zb.go0 (zjD hx.1) ?_;have hcll:(e.cs.flatMap yf).length=e.cs.length*50:=zf qW e.cs;obtain⟨X,hX⟩:∃X,X=e.cs.flatMap yf++junk:=⟨_,rfl⟩
  have hXl:X.length=e.cs.length*50+junk.length:=by rw[hX,zuR,hcll]
  have hcut:(if e.cs.length*50=X.length then X else X.take (e.cs.length*50))=e.cs.flatMap yf:=by
   have ee:X.take (e.cs.length*50)=e.cs.flatMap yf:=by rw[hX,←hcll,zwc];rfl
   split
   ·rename_i h;rw[←ee,zvG (by omega)]
   ·exact ee
  rw[←hX] at hc';have hroom:(e.cs.length+1)*536≤140737488355328:=by have:=hL.cl;have:=hL.st.hi;omega
  have hic:¬o.i=o.c:=by omega
  have hci:¬o.c=o.i:=by omega
  simp[zC,pC,zP,zi,zD,hi',li',hc',lc',hcut,hroom,show e.cs.length*50≤X.length by omega];refine⟨.inr (.inl (by simp[Eo.ids])),?_⟩;simp[hi',li',lc',hic,hci];refine⟨.inr (.inl (by simp[Eo.ids])),?_⟩;have hE2:=hPG.setC hi' {e.s with book:=0,perm:=0,up:=0,l:=ls} rfl rfl ⟨e.s,x,seq⟩;have hS2:∀A B,Sam (esS o si sk) G ((G.set o.c A).set o.i B):=fun A B=>(Sam.set (.inl (by simp[Eo.ids])) _).trans (Sam.set (.inl (by simp[Eo.ids])) _);have hst2:∀A B J,JH ((G.set o.c A).set o.i B++J) o.st o.sk e.first e.touched:=fun A B J=>by
   obtain⟨w3,j3,k0,k1,k2⟩:=hPG.st;refine JH.app ⟨w3,j3,k0,?_,?_⟩
   ·rw[zuU (by omega),zuU (by omega)];exact k1
   ·rw[zuU (by omega),zuU (by omega)];exact k2
  have hG2:∀A B J,qb ((G.set o.c A).set o.i B++J) si sk js':=fun A B J=>by
   have q:∀i∈o.ids,i≠si∧i≠sk:=fun i hi'=>⟨fun ee=>hd.1 (ee▸hi'),fun ee=>hd.2 (ee▸hi')⟩
   have q1:=q o.c (by simp[Eo.ids]);have q2:=q o.i (by simp[Eo.ids]);refine qb.app (hG.sam ?_ ?_)
   ·rw[zuU q2.1,zuU q1.1]
   ·rw[zuU q2.2,zuU q1.2]
  simp[yf,zC,pC,zP,zi,zD] at hE2;refine zb.go (zoQ (hst2 _ _ _) (by omega) hL.st) (fun z hz ee=> .inr (.inl (by rcases ee with rfl|rfl<;>simp[Eo.ids]))) ?_;rintro u g3 ⟨rfl,hT,hU⟩;simp[zfM,hop,hp] at hT⊢;have hE3:=hE2.app.setSt (t:=e.touched++[false]) (fun j hj h1 h2=>hU.same j (by simp[h1,h2])) hT;have nsi:∀i∈o.ids,si≠i∧sk≠i:=fun i hi'=>⟨fun ee=>hd.1 (ee▸hi'),fun ee=>hd.2 (ee▸hi')⟩
  have q1:=nsi o.st (by simp[Eo.ids]);have q2:=nsi o.sk (by simp[Eo.ids]);have hG3:qb g3 si sk js':=(hG2 _ _ _).sam (hU.same si (by simp[q1.1,q2.1])) (hU.same sk (by simp[q1.2,q2.2]));have hS3:=(((hSG.trans (hS2 _ _)).app _).trans (hU.sam.mono (T:=esS o si sk) fun j ee=> .inl (by rcases ee with rfl|rfl<;>simp[Eo.ids])))
  rw[zu9] at hS3;refine zsp hE3 hG3 hS3 hlt lsi lsk (by simp) fun G' h1 h2 h3=>hΨ _ _ (by rw[hcl];exact⟨rfl,h2,h3,h1⟩)
end
end Go.Proofs.YtdmcfjkgopmlgaaGreatDoor.Ev.CA

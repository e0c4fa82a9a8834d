import Derived.Test.YtdmcfjkgopmlgaaGreatDoorR6
set_option linter.unusedVariables false
set_option linter.unusedSimpArgs false
set_option linter.unusedSectionVars false
namespace Go.Proofs.YtdmcfjkgopmlgaaGreatDoor.Ev
open Go Ieee
theorem znl(way:Toward)(neg:Bool)(n:Nat):way.cut neg n 0=n:=by unfold Toward.cut;simp only[Nat.zero_min,Nat.shiftLeft_zero,Nat.div_one,Nat.mod_one];cases way<;>simp
theorem zly(way:Toward)(neg:Bool)(n d:Nat)(h:n≠0):way.cut neg (n*2^d) d=n:=by
 unfold Toward.cut;have hl:(n*2^d).log2=n.log2+d:=by rw[Nat.log2_eq_iff (by have:=zwA d;exact zxo h (by omega))];have h1:=zxX h;have h2:=zxY (n:=n);rw[zwK,show n.log2+d+1=(n.log2+1)+d by omega,zwK];exact⟨zvf _ h1,zw9 h2 (zwA d)⟩
 have hm:min d ((n*2^d).log2+2)=d:=by omega
 simp only[hm,Nat.one_shiftLeft,Nat.mul_div_cancel _ (zwA d),Nat.mul_mod_left];have:0<2^d:=zwA d;cases way<;>simp<;>omega
theorem zqJ(n k:Nat)(h:n≠0):(n*2^k).log2=n.log2+k:=by rw[Nat.log2_eq_iff (by have:=zwA k;exact zxo h (by omega))];have h1:=zxX h;have h2:=zxY (n:=n);rw[zwK,show n.log2+k+1=(n.log2+1)+k by omega,zwK];exact⟨zvf _ h1,zw9 h2 (zwA k)⟩
def rg(n:Nat):Nat:=if n=0 then 0 else(n.log2+1022)*2^52+n*2^(52-n.log2)
theorem zjk{n:Nat}(h0:n≠0)(h:n<2^53):n.log2≤52:=by have:=(Nat.log2_lt h0).2 h;omega
theorem zcc{n:Nat}(h0:n≠0)(h:n<2^53):2^52≤n*2^(52-n.log2)∧n*2^(52-n.log2)<2^53:=by
 have hl:=zjk h0 h;have h1:=zxX h0;have h2:=zxY (n:=n);have e:2^n.log2*2^(52-n.log2)=2^52:=by rw[←zwK];congr 1;omega
 have e2:2^(n.log2+1)*2^(52-n.log2)=2^53:=by rw[←zwK];congr 1;omega
 rw[←e,←e2];exact⟨zvf _ h1,zw9 h2 (zwA _)⟩
theorem zdS{n:Nat}(h:n<2^53)(k:Nat):Format.nearest double false (n*2^k) (-(k:Int))=rg n:=by
 unfold Format.nearest rg;by_cases h0:n=0
 ·subst h0;simp[Format.word]
 ·have hl:=zjk h0 h;have hk:=zcc h0 h;have hne:n*2^k≠0:=zxo h0 (by have:=zwA k;omega);rw[zuQ hne,zuQ h0,zqJ n k h0];have hlp:double.leastPlace= -1074:=by decide
  have hfb:(double.fractionBits:Int)=52:=rfl;have hlast:max (-(k:Int)+((n.log2+k:Nat):Int)-double.fractionBits) (-1074)=(n.log2:Int)-52:=by rw[hfb];omega
  simp only[hlp,hlast];have hb:double.binade=2^52:=by decide
  have hi:double.infRung=2047*2^52:=by decide
  have hcut:Toward.even.cut false ((n*2^k)<<<(-(k:Int)-((n.log2:Int)-52)).toNat) ((n.log2:Int)-52- -(k:Int)).toNat=n*2^(52-n.log2):=by
   by_cases c:k≤52-n.log2
   ·have e1:(-(k:Int)-((n.log2:Int)-52)).toNat=52-n.log2-k:=by omega
    have e2:((n.log2:Int)-52- -(k:Int)).toNat=0:=by omega
    rw[e1,e2,znl,Nat.shiftLeft_eq,zxn,←zwK];congr 2;omega
   ·have e1:(-(k:Int)-((n.log2:Int)-52)).toNat=0:=by omega
    have e2:((n.log2:Int)-52- -(k:Int)).toNat=k-(52-n.log2):=by omega
    rw[e1,e2,Nat.shiftLeft_zero];have e3:n*2^k=n*2^(52-n.log2)*2^(k-(52-n.log2)):=by rw[zxn,←zwK];congr 2;omega
    rw[e3,zly _ _ _ _ (by omega)]
  rw[hcut,hb,hi];have e4:((n.log2:Int)-52- -1074).toNat=n.log2+1022:=by omega
  have hw:∀r,double.word false r=r:=fun r=>zuQ (by decide);rw[e4,hw,zvu]
  ·have h1:(n.log2+1022)*2^52≤1074*2^52:=zvf _ (by omega);exact zvz (Nat.add_le_add h1 (Nat.le_of_lt hk.2)) (by decide)
def fl(n:Nat):Nat:=FloatKind.f64.nearest (n:Int)
theorem zeS{n:Nat}(h:n<2^53):fl n=rg n:=by
 have:=zdS h 0;simp only[Nat.pow_zero,zxS] at this;unfold fl FloatKind.nearest FloatKind.encode FloatKind.format Format.write;have e:decide ((n:Int)<0)=false:=by simp
 simp only[e,Int.natAbs_natCast];exact this
theorem zcJ{n:Nat}(h:n<2^53):∃m k:Nat,double.read (rg n)= .number false m (-(k:Int))∧m=n*2^k:=by
 have hb:double.binade=2^52:=by decide
 have hi:double.infRung=2047*2^52:=by decide
 have hs:double.signWeight=2^63:=by decide
 have hlp:double.leastPlace= -1074:=by decide
 unfold Format.read rg;rw[hs,hb,hi,hlp];by_cases h0:n=0
 ·subst h0;have key:∀k:Nat,(0:Nat)=0*2^k:=fun k=>(zvP _).symm;exact⟨0,1074,by simp,key 1074⟩
 ·have hl:=zjk h0 h;have hk:=zcc h0 h;rw[zuQ h0];obtain⟨q,hq⟩:∃q,q=n*2^(52-n.log2):=⟨_,rfl⟩
  rw[←hq] at hk⊢;obtain⟨e,he⟩:∃e,e=n.log2:=⟨_,rfl⟩
  rw[←he] at hl hq⊢;have hlt:(e+1022)*2^52+q<2^63:=by omega
  have h1:((e+1022)*2^52+q)/2^63=0:=Nat.div_eq_of_lt hlt;have h2:((e+1022)*2^52+q)%2^63=(e+1022)*2^52+q:=zxZ hlt;simp only[h1,h2];rw[zuQ (by omega),zuO (by omega)];have h3:((e+1022)*2^52+q)%2^52=q-2^52:=by omega
  have h4:((e+1022)*2^52+q)/2^52=e+1023:=by omega
  refine⟨q,52-e,?_,hq⟩;rw[h3,h4];have h5:2^52+(q-2^52)=q:=by omega
  rw[h5];have h6:(-1074+((e+1023-1:Nat):Int))= -((52-e:Nat):Int):=by omega
  rw[h6];rfl
theorem zfo(m k:Nat):signed false m k=((m*2^k:Nat):Int):=by unfold signed;simp[Nat.shiftLeft_eq]
theorem znA{n m:Nat}(h:n+m<2^53):FloatKind.f64.format.add (fl n) (fl m)=some (fl (n+m)):=by
 rw[zeS (n:=n) (by omega),zeS (n:=m) (by omega),zeS h];obtain⟨a,k,e1,rfl⟩:=zcJ (n:=n) (by omega);obtain⟨b,j,e2,rfl⟩:=zcJ (n:=m) (by omega);show Option.map double.write ((double.read (rg n)).sum (double.read (rg m)))=_;rw[e1,e2];unfold Datum.sum;simp only[zfo];obtain⟨t,ht⟩:∃t,t=max k j:=⟨_,rfl⟩
 have hbase:min (-(k:Int)) (-(j:Int))= -(t:Int):=by omega
 rw[hbase];have c1:(-(k:Int)- -(t:Int)).toNat=t-k:=by omega
 have c2:(-(j:Int)- -(t:Int)).toNat=t-j:=by omega
 rw[c1,c2];have d1:n*2^k*2^(t-k)=n*2^t:=by rw[zxn,←zwK];congr 2;omega
 have d2:m*2^j*2^(t-j)=m*2^t:=by rw[zxn,←zwK];congr 2;omega
 rw[d1,d2,←zwu,←zvv];have hneg:(if(((n+m)*2^t:Nat):Int)=0 then false&&false else decide ((((n+m)*2^t:Nat):Int)<0))=false:=by
  split
  ·rfl
  ·rw[zv2];omega
 rw[hneg,Int.natAbs_natCast];simp only[zvb,Format.write];rw[zdS h]
theorem znB{n m:Nat}(hn:n<2^53)(hm:m<2^53):(FloatKind.f64.format.order (fl n) (fl m)==some .eq)=decide (n=m):=by
 rw[zeS hn,zeS hm];obtain⟨a,k,e1,rfl⟩:=zcJ hn;obtain⟨b,j,e2,rfl⟩:=zcJ hm;show((double.read (rg n)).order (double.read (rg m))==some .eq)=_;rw[e1,e2];unfold Datum.order;simp only[zfo];obtain⟨t,ht⟩:∃t,t=max k j:=⟨_,rfl⟩
 have hbase:min (-(k:Int)) (-(j:Int))= -(t:Int):=by omega
 rw[hbase];have c1:(-(k:Int)- -(t:Int)).toNat=t-k:=by omega
 have c2:(-(j:Int)- -(t:Int)).toNat=t-j:=by omega
 rw[c1,c2];have d1:n*2^k*2^(t-k)=n*2^t:=by rw[zxn,←zwK];congr 2;omega
 have d2:m*2^j*2^(t-j)=m*2^t:=by rw[zxn,←zwK];congr 2;omega
 rw[d1,d2];by_cases e:n=m
 ·subst e;rw[zvZ rfl];simp[compare,compareOfLessAndEq]
 ·rw[zv2 e];have hne:((n*2^t:Nat):Int)≠((m*2^t:Nat):Int):=by
   intro he;exact e (Nat.eq_of_mul_eq_mul_right (zwA t) (by omega))
  simp only[compare,compareOfLessAndEq];split
  ·rfl
  ·first
    |rfl
    |(rw[zuQ hne];rfl)
theorem zcC:fl 0=0:=by rw[zeS (by omega)];rfl
abbrev cx(d c:Nat):SV:= .cpl .f64 (fl d) (fl c)
theorem zqd{a b c d:Nat}(h1:a+c<9007199254740992)(h2:b+d<9007199254740992):zb7 .add (fl a) (fl b) (fl c) (fl d)=some (cx (a+c) (b+d)):=by unfold zb7;rw[znA h1,znA h2]
theorem zqr{a b:Nat}(h1:a<9007199254740992)(h2:b<9007199254740992):zb9 .eql (fl a) (fl b)=some (.bool (decide (a=b))):=by unfold zb9;rw[znB h1 h2]
end Go.Proofs.YtdmcfjkgopmlgaaGreatDoor.Ev
namespace Go.Proofs.YtdmcfjkgopmlgaaGreatDoor.Ev.CA
open Go
section
attribute [-simp] List.length_flatMap getElem?_pos
def ziP:List ByteArray:=[⟨#[]⟩,⟨#[99,117,114,114,101,110,116]⟩,⟨#[112,97,121,97,98,108,101]⟩,⟨#[100,101,102,101,114,114,101,100]⟩,⟨#[116,101,109,112]⟩,⟨#[108,111,115,115,101,115]⟩,⟨#[97,108,108,111,119,97,110,99,101]⟩,⟨#[116,114,117,101,117,112]⟩]
abbrev zes(s:ByteArray):List XV:=[xs s]
theorem zhh(s:ByteArray):(zes s).length=1:=rfl
@[simp] theorem encS_lvs(m:Nat)(l:List ByteArray):zw m (l.flatMap zes):=zZ (fun a=>by simp[zes]) l
theorem zc4{g:XH}:Cl C (fun _=>False) 174 [] g fun u g'=>u= .s (.lst 9 1 8 (ziP.flatMap zes))∧g'=g:=by refine Cl.ip rfl (zuF rfl) fun Ψ hΨ=> ?_;simp[rep];exact Gh.pure (u':= .s (.lst 9 1 8 (ziP.flatMap zes))) (.s (.fl (l:=ziP) (t:=9) zhh (fun m a=>by simp[zes]) (zuL _) (by simp[ziP,zes]))) (hΨ _ _ ⟨rfl,rfl⟩)
def Yi(n:Int):Bool:=decide (1≤n∧n≤7)
theorem zkl(n:Int):Pure C 175 [fi n] (fb (Yi n)):=by
 refine Pure.intro0 (e:=e175) rfl (zuF rfl) (by simp) fun g Ψ h0 hJ=> ?_;simp
 repeat' first|(refine zc (fun hc=> ?_) (fun hc=> ?_)<;>try simp)
 all_goals(simp at *;exact Zv h0 (by simp[Yi, *]<;>omega))
def ze1(a:Int):ByteArray:=if 1≤a∧a≤7 then ziP.getD a.toNat ⟨#[]⟩ else⟨#[]⟩
theorem zoc(a:Int):(ze1 a).size=0↔¬(1≤a∧a≤7):=by
 unfold ze1;split
 ·rename_i h;have:a=1∨a=2∨a=3∨a=4∨a=5∨a=6∨a=7:=by omega
  rcases this with rfl|rfl|rfl|rfl|rfl|rfl|rfl<;>simp[ziP]<;>decide
 ·rename_i h;exact⟨fun _=>h,fun _=>rfl⟩
theorem zlp{g:XH}(a:Int):Cl C (fun _=>False) 350 [fi a] g fun u g'=>u=fs (ze1 a)∧g'=g:=by
 refine Cl.ip rfl (zuF rfl) fun Ψ hΨ=> ?_;simp;refine zb.pure (zkl ..) ?_;simp;refine zc (fun h=> ?_) (fun h=> ?_)
 ·simp[Yi] at h;simp;refine zb.go0 zc4 ?_;have:a=1∨a=2∨a=3∨a=4∨a=5∨a=6∨a=7:=by omega
  rcases this with rfl|rfl|rfl|rfl|rfl|rfl|rfl<;>simp[ziP,zes]<;>exact Gh.here (hΨ _ _ ⟨rfl,rfl⟩)
 ·simp[Yi] at h;simp;exact Gh.here (hΨ _ _ ⟨by simp[ze1,show¬(1≤a∧a≤7) by omega],rfl⟩)
def zas(k:Nat):List Int:=((List.range k).filter fun j=>decide (1≤j)).map fun(j:Nat)=>(j:Int)
theorem zlj(k:Nat):zas (k+1)=if 1≤k then zas k++[(k:Int)] else zas k:=by
 unfold zas;rw[zx0,zwB,zvp];split
 ·rename_i h;simp[h]
 ·rename_i h;simp[h]
theorem zmW(k:Nat):(zas k).length≤k:=by unfold zas;have:=zv6 (fun j=>decide (1≤j)) (List.range k);simp at this⊢;omega
def zlk:List Int:=[1,2,3,4,5,6,7]
theorem zep{g:XH}:Cl C (fun _=>False) 102 [] g fun u g'=>u= .s (YI zlk)∧g'=g:=by
 refine Cl.ip rfl (zuF rfl) fun Ψ hΨ=> ?_;simp;refine zb.go0 zc4 ?_;simp;refine Lp.genG 3 1 (σ:=Nat) 8 (fun k w=>[(1,.s (.sl g.length w 0 (zas k).length)),(5,fi k)]) (fun k w=>g++[.own w 3 1 ((zas k).flatMap zY)]) (fun _ _=>True) 0 (by decide) rfl (by simp[GhF,zas]) (by simp[zas]) trivial ?_ ?_
 ·rintro q hq w _ hlt N hN;have hl:=zmW q;have hfl:((zas q).flatMap zY).length=(zas q).length:=by rw[zg zG];omega
  rw[zlj] at hN;generalize zas q=A at *;simp[l102_0,show(q:Int)<8 by omega];refine zb.pure (zkl ..) ?_;simp;by_cases h1:1≤q
  ·rw[zuO h1] at hN;simp[show Yi q=true by simp[Yi];omega,hfl,show(A.length+1)*8≤140737488355328 by omega,yN hq (by omega)];exact jo (fun fr g'=>hN (w+1) fr g' trivial) (by simp) (by simp) (by simp) (by simp[lvO])
  ·rw[zuQ h1] at hN;simp[show Yi q=false by simp[Yi];omega,yN hq (by omega)];exact jo (fun fr g'=>hN w fr g' trivial) rfl (by simp) (by simp) (by simp[lvO])
 ·rintro w _;have e:zas 8=zlk:=by decide
  rw[e];simp[l102_0];exact Gh.pure (.s (.fl (t:=3) zG (fun m a=>by simp[zY]) (zuL _) (by simp))) (hΨ _ _ ⟨rfl,rfl⟩)
def ofC(n:Int):Nat×Nat:=if za n then(if n >0 then(n.toNat,0) else(0,(-n).toNat)) else(0,0)
theorem ze6(n:Int):(ofC n).1≤100000000000∧(ofC n).2≤100000000000:=by
 unfold ofC;split
 ·rename_i h;simp[za] at h;split<;>simp<;>omega
 ·simp
theorem ze2{n:Int}(h:0≤n):FloatKind.f64.nearest n=fl n.toNat:=by unfold fl;rw[zxD h]
abbrev xc(p:Nat×Nat):XV:= .v (cx p.1 p.2)
theorem zri(n:Int):Pure C 351 [fi n] (.s (xc (ofC n))):=by
 refine Pure.intro0 (e:=e351) rfl (zuF rfl) (by simp[cx]) fun g Ψ h0 hJ=> ?_;simp;refine zb.pure (yc ..) ?_;simp;refine zc (fun k1=> ?_) (fun k1=> ?_)
 ·simp;refine zc (fun k2=> ?_) (fun k2=> ?_)
  ·simp at k2;simp;exact Zv h0 (by simp[ofC,k1,k2,ze2 (n:=n) (by omega),cx,zcC])
  ·simp at k2;have w:IntKind.i64.wrap (-n)= -n:=by
    simp[za] at k1;exact ze (by omega) (by omega)
   simp[w];exact Zv h0 (by simp[ofC,k1,show¬0<n by omega,ze2 (n:= -n) (by omega),cx,zcC])
 ·simp;exact Zv h0 (by simp[ofC,k1,cx,zcC])
def jy(x:Li):List XV:=[xi x.a,xi x.n]
theorem y9(x:Li):(jy x).length=2:=rfl
@[simp] theorem zcA(x:Li)(m:Nat):zw m (jy x):=by simp[jy]
@[simp] theorem znq(m:Nat)(l:List Li):zw m (l.flatMap jy):=zZ (fun a=>zcA a m) l
abbrev zjm(l:List Li):XV:= .lst 189 2 l.length (l.flatMap jy)
abbrev encC(p:Nat×Nat):List XV:=[xc p]
theorem zdg(p:Nat×Nat):(encC p).length=1:=rfl
@[simp] theorem zno(m:Nat)(l:List (Nat×Nat)):zw m (l.flatMap encC):=zZ (fun a=>by simp[encC]) l
def s1C(l:List (Nat×Nat)):Nat:=(l.map (·.1)).sum
def s2C(l:List (Nat×Nat)):Nat:=(l.map (·.2)).sum
theorem zrg(l:List (Nat×Nat))(k:Nat)(hk:k<l.length):s1C (l.take (k+1))=s1C (l.take k)+l[k].1∧s2C (l.take (k+1))=s2C (l.take k)+l[k].2:=by unfold s1C s2C;rw[zu6 hk,zvp,zvp,zwJ,zwJ];exact⟨rfl,rfl⟩
theorem zoG:∀(l:List (Nat×Nat)),(∀p∈l,p.1≤100000000000∧p.2≤100000000000)→s1C l≤100000000000*l.length∧s2C l≤100000000000*l.length
 |[],_=>by simp[s1C,s2C]
 |p::l,h=>by have h1:=zoG l fun q hq=>h q (by simp[hq]);have h2:=h p (by simp);simp only[s1C,s2C,zu2,zwm,zvr] at h1⊢;omega
theorem zoJ{g:XH}{v:XV}{l:List (Nat×Nat)}(hr:RdX g 379 1 encC v l)(hl:l.length≤1000)(hb:∀p∈l,p.1≤100000000000∧p.2≤100000000000):Cl C (fun _=>False) 352 [.s v] g fun u g'=>u= .s (xc (s1C l,s2C l))∧g'=g:=by
 refine Cl.ip rfl (zuF rfl) fun Ψ hΨ=> ?_;simp[hr.len];refine Lp.genU (σ:=Unit) l.length (fun k _=>[(3,.s (xc (s1C (l.take k),s2C (l.take k)))),(8,fi k)]) (fun _ _=>g) (fun _ _=>True) () (by decide) rfl (by simp[s1C,s2C,cx,zcC]) rfl trivial ?_ ?_
 ·rintro q hq _ _ hlt N hN;obtain⟨p1,cs,o1,b1,b2,b3,b4⟩:=hr.at1 zdg hq;obtain⟨e1,e2⟩:=zrg l q hq;have h1:=zoG (l.take q) fun p hp=>hb p (zvM hp);have h2:=hb _ (zvk hq);rw[zu0,zvu (by omega)] at h1;have ha:=zqd (a:=s1C (l.take q)) (b:=s2C (l.take q)) (c:=l[q].1) (d:=l[q].2) (by omega) (by omega);rw[←e1,←e2] at ha;simp[l352_0,hq,b1,b2,b3,b4,encC,cx,ha,yN hq (by omega)];exact qJ () hN trivial (by simp[cx]) (by simpa using hlt)
 ·rintro _ _;rw[zve];simp[l352_0];exact Gh.here (hΨ _ _ ⟨rfl,rfl⟩)
theorem zmp{a b:Nat}(ha:a≤4000000000000000)(hb:b≤4000000000000000):Pure C 330 [.s (xc (a,b))] (fb (decide (a=b))):=by refine Pure.intro0 (e:=e330) rfl (zuF rfl) (by simp) fun g Ψ h0 hJ=> ?_;have h:=zqr (a:=a) (b:=b) (by omega) (by omega);simp[cx,h];exact h0
theorem zgk{g:XH}{v:XV}{l:List Li}(hr:RdX g 189 2 jy v l)(hl:l.length≤1000):Cl C (fun _=>False) 331 [.s v] g fun u g'=>u= .s (xc (s1C (l.map fun x=>ofC x.n),s2C (l.map fun x=>ofC x.n)))∧g'=g:=by
 refine Cl.ip rfl (zuF rfl) fun Ψ hΨ=> ?_;simp[hr.len];refine Lp.genG 379 1 (σ:=Nat) l.length (fun k w=>[(3,.s (.sl g.length w 0 k)),(8,fi k)]) (fun k w=>g++[.own w 379 1 (((l.take k).map fun x=>ofC x.n).flatMap encC)]) (fun _ _=>True) 0 (by decide) rfl (by simp[GhF]) (by simp) trivial ?_ ?_
 ·rintro q hq w _ hlt N hN;obtain⟨p1,cs,o1,b1,b2,b3,b4,b5,_⟩:=hr.atJ y9 (by decide) hq;have e1:(l.take (q+1)).map (fun x=>ofC x.n)=(l.take q).map (fun x=>ofC x.n)++[ofC l[q].n]:=by rw[zu6 hq,zvp];rfl
  have hfl:(((l.take q).map fun x=>ofC x.n).flatMap encC).length=q:=by rw[zg zdg];simp;omega
  have hlF:∀m,zw m (((l.take q).map fun x=>ofC x.n).flatMap encC):=fun m=>zno m _;rw[e1,zvw] at hN;generalize((l.take q).map fun x=>ofC x.n).flatMap encC=F at *;simp[l331_0,hq,b3,b4,b5,jy];refine zb.pure (zri ..) ?_;simp[hfl,show(q+1)*16≤140737488355328 by omega,yN hq (by omega)];exact jo (fun fr g'=>hN (w+1) fr g' trivial) (by simp[encC]) (by simp) (by simpa using hlt) (by simp[lvO,hlF,encC,cx])
 ·rintro w _;rw[zve];simp[l331_0];have hs:=RdX.sl (g:=g++[.own w 379 1 ((l.map fun x=>ofC x.n).flatMap encC)]) (i:=g.length) (w:=w) (t:=379) zdg (l:=l.map fun x=>ofC x.n) (by simp);rw[zu9] at hs;refine zb.go0 (zoJ hs (by simp;omega) fun p hp=>by
   obtain⟨x,_,rfl⟩:=zvV.1 hp;exact ze6 _) ?_
  simp;exact Gh.pure (.s (.lt (by simp[cx]))) (hΨ _ _ ⟨rfl,rfl⟩)
def zgH(x:Li):Bool:=Yi x.a&&(x.n !=0&&za x.n)
theorem zlX(x:Li){g:XH}:Cl C (fun _=>False) 329 [.agg (jy x)] g fun u g'=>u=fb (zgH x)∧g'=g:=by
 refine Cl.ip rfl (zuF rfl) fun Ψ hΨ=> ?_;simp[jy];refine zb.go0 (zlp x.a) ?_;have h1:=zoc x.a;have hn:(ze1 x.a).toList.isEmpty= !Yi x.a:=by
  rw[yM];by_cases hs:(ze1 x.a).size=0
  ·have:=h1.1 hs;rw[zvZ hs];simp[Yi];omega
  ·have:1≤x.a∧x.a≤7:=Classical.byContradiction fun h=>hs (h1.2 h);rw[zv2 hs];simp[Yi,this]
 simp[hn]
 repeat' first|(refine zc (fun hc=> ?_) (fun hc=> ?_)<;>try simp)|(refine zb.pure (yc ..) ?_;try simp)
 all_goals(refine Gh.pure .b (hΨ _ _ ⟨?_,rfl⟩);simp[zgH, *])
 all_goals(simp at *;simp[*])
theorem jP:∀(l:List Li) (a:Int),yF a l=true→∀x∈l,za x.n=true
 |[],_,_,x,hx=>by simp at hx
 |y::l,a,h,x,hx=>by
  simp only[yF,zuP] at h;rcases zuX.1 hx with rfl|hx
  ·exact h.1.2.2
  ·exact jP l _ h.2 x hx
theorem zol{n:Int}(h:za n=true):((ofC n).1:Int)-(ofC n).2=n:=by unfold ofC;rw[zuO h];split<;>simp<;>omega
theorem zkZ:∀(l:List Li),(∀x∈l,za x.n=true)→((s1C (l.map fun x=>ofC x.n):Nat):Int)-(s2C (l.map fun x=>ofC x.n):Nat)=(l.map (·.n)).sum
 |[],_=>by simp[s1C,s2C]
 |x::l,h=>by have h1:=zkZ l fun y hy=>h y (by simp[hy]);have h2:=zol (h x (by simp));simp only[s1C,s2C,zu2,zwm] at h1⊢;omega
theorem zaV{g:XH}{v:XV}{l:List Li}(hr:RdX g 189 2 jy v l)(hl:l.length≤1000):Cl C (fun _=>False) 293 [.s v] g fun u g'=>u=fi (if yh l then 0 else 2)∧g'=g:=by
 refine Cl.ip rfl (zuF rfl) fun Ψ hΨ=> ?_;simp[hr.len];refine zc (fun h1=> ?_) (fun h1=> ?_)
 ·simp at h1⊢;exact Gh.here (hΨ _ _ ⟨by simp[yh,show¬l.length≤20 by omega],rfl⟩)
 simp at h1;simp[hr.len];have bad:∀J,yF 0 l=false→Gh (fun _=>False) g Ψ (fi 2) (g++J):=fun J h=>Gh.pure .i (hΨ _ _ ⟨by simp[yh,h],rfl⟩);refine Lp.genU (σ:=Int) l.length (fun k s=>[(3,fi s),(11,fi k)]) (fun _ _=>g) (fun k s=>0≤s∧yF 0 l=yF s (l.drop k)) 0 (by decide) rfl (by simp) rfl (by simp) ?_ ?_
 ·rintro q hq s ⟨hs,hP⟩ hlt N hN;obtain⟨p1,cs,o1,b1,b2,b3,b4,b5,_⟩:=hr.atJ y9 (by decide) hq;rw[zvq hq,yF] at hP;have hlr:=fun g=>zlX (g:=g) l[q];simp[jy] at hlr;simp[l293_0,hq,b1,b2,b4,b5,jy];refine zb.go0 (hlr _) ?_;simp;refine zc (fun k1=> ?_) (fun k1=> ?_)
  rotate_left
  ·simp;refine bad _ (by rw[hP];simp[zgH,Yi] at k1⊢;intro a b;by_cases h:1≤l[q].a∧l[q].a≤7<;>simp_all<;>omega)
  simp;refine zc (fun k2=> ?_) (fun k2=> ?_)
  ·simp at k2⊢;refine bad _ (by rw[hP];simp;omega)
  simp at k2;simp[yN hq (by omega)];refine zam l[q].a hN ⟨by omega,?_⟩ (by simp) (by simpa using hlt);rw[hP];simp[zgH,Yi] at k1;simp[k1,k2]
 ·rintro s ⟨hs,hP⟩;rw[zxV] at hP;have hall:yF 0 l=true:=hP;have hm:=jP l 0 hall;have hd:=zkZ l hm;have hb:=zoG (l.map fun x=>ofC x.n) fun p hp=>by
   obtain⟨x,_,rfl⟩:=zvV.1 hp;exact ze6 _
  rw[zu9] at hb;have hsum:yh l=decide (s1C (l.map fun x=>ofC x.n)=s2C (l.map fun x=>ofC x.n)):=by
   unfold yh;rw[hall,zvZ (show l.length≤20 by omega),zxB,zxB,←hd];by_cases h:s1C (l.map fun x=>ofC x.n)=s2C (l.map fun x=>ofC x.n)
   ·rw[zvZ h,h];simp
   ·rw[zv2 h];simp;omega
  have hS:=zgk hr hl;simp[l293_0];refine zb.go0 hS ?_;clear hS;have hb1:s1C (l.map fun x=>ofC x.n)≤4000000000000000:=by omega
  have hb2:s2C (l.map fun x=>ofC x.n)≤4000000000000000:=by omega
  generalize s1C (l.map fun x=>ofC x.n)=d at *;generalize s2C (l.map fun x=>ofC x.n)=c at *;have hE:=zmp hb1 hb2;rw[hsum] at hΨ;simp;refine zb.pure hE ?_;simp;refine zc (fun k1=> ?_) (fun k1=> ?_)
  ·simp;exact Gh.here (hΨ _ _ ⟨by rw[k1];rfl,rfl⟩)
  ·simp;exact Gh.here (hΨ _ _ ⟨by rw[k1];rfl,rfl⟩)
theorem fewP(x:Li)(g:XH):Cl C (fun _=>False) 302 [.agg (jy x)] g fun u g'=>u=fb (!za x.n)∧g'=g:=by refine Cl.ip rfl (zuF rfl) fun Ψ hΨ=> ?_;simp[jy];refine zb.pure (yc ..) ?_;simp;exact Gh.pure (.s (.lt (by simp))) (hΨ _ _ ⟨rfl,rfl⟩)
def zaJ(l:List Li):Bool:=decide (l.length≤40)&& !(l.any fun x=> !za x.n)
theorem zny{l:List Li}(h:zaJ l=true):l.length≤40∧∀x∈l,za x.n=true:=by simp[zaJ] at h;exact h
theorem zdD{g:XH}{v:XV}{l:List Li}(hr:RdX g 189 2 jy v l)(hl:l.length≤100000):Cl C (fun _=>False) 240 [.s v] g fun u g'=>u=fb (zaJ l)∧g'=g:=by
 refine Cl.ip rfl (zuF rfl) fun Ψ hΨ=> ?_;simp[hr.len];refine zc (fun h1=> ?_) (fun h1=> ?_)
 ·simp at h1;simp;refine zb.go0 (Qx (f:=301) (fi':=333) (q:=fun x=> !za x.n) rfl rfl y9 (by decide) hr (by omega) (.inl ⟨_,rfl,fun x _=>fewP x _⟩)) ?_;simp;exact Gh.here (hΨ _ _ ⟨by simp[zaJ,show l.length≤40 by omega],rfl⟩)
 ·simp at h1;simp;exact Gh.here (hΨ _ _ ⟨by simp[zaJ,show¬l.length≤40 by omega],rfl⟩)
theorem zms(a:Int)(l:List Li){k:Nat}(hk:k<l.length):yK (l.take (k+1)) a=if l[k].a=a then yK (l.take k) a+l[k].n else yK (l.take k) a:=by
 unfold yK;rw[zu6 hk,zwB,zvp,zwJ];split
 ·rename_i h;simp[h]
 ·rename_i h;simp[h]
theorem zgT(a:Int):∀(l:List Li),(∀x∈l,za x.n=true)→-(100000000000*(l.length:Int))≤yK l a∧yK l a≤100000000000*(l.length:Int)
 |[],_=>by simp[yK]
 |x::l,h=>by
  have h1:=zgT a l fun y hy=>h y (by simp[hy]);have h2:=h x (by simp);simp only[za,zuW] at h2;unfold yK at h1⊢;by_cases hx:x.a=a
  ·rw[List.filter_cons_of_pos (by simp[hx])];simp only[zu2,zwm,zvr,zwu,zw4];omega
  ·rw[List.filter_cons_of_neg (by simp[hx])];simp only[zvr,zwu,zw4];omega
theorem zdE{g:XH}{v:XV}{l:List Li}(hr:RdX g 189 2 jy v l)(hf:zaJ l=true)(a:Int):Cl C (fun _=>False) 241 [.s v,fi a] g fun u g'=>u=fi (yK l a)∧g'=g:=by
 obtain⟨hl,hm⟩:=zny hf;refine Cl.ip rfl (zuF rfl) fun Ψ hΨ=> ?_;simp[hr.len];refine Lp.genU (σ:=Unit) l.length (fun k _=>[(5,fi (yK (l.take k) a)),(10,fi k)]) (fun _ _=>g) (fun k s=>True) () (by decide) rfl (by simp[yK]) rfl trivial ?_ ?_
 ·rintro q hq _ _ hlt N hN;obtain⟨p1,cs,o1,b1,b2,b3,b4,b5,_⟩:=hr.atJ y9 (by decide) hq;have hb:=zgT a (l.take q) fun x hx=>hm x (zvM hx);rw[zu0,zvu (by omega)] at hb;have hx:=hm _ (zvk hq);have hs:=zms a l hq;simp[l241_0,hq,b1,b2,b4,b5,jy];refine zc (fun k1=> ?_) (fun k1=> ?_)
  ·simp at k1;rw[zuO k1] at hs;have hw:IntKind.i64.wrap (yK (l.take q) a+l[q].n)=yK (l.take (q+1)) a:=by
    simp[za] at hx;rw[hs];exact ze (by omega) (by omega)
   simp[hw,yN hq (by omega)];exact zam () hN trivial (by simp) (by simpa using hlt)
  ·simp at k1;rw[zuQ k1] at hs;simp[yN hq (by omega)];exact zam () hN trivial (by simp[hs]) (by simpa using hlt)
 ·rintro _ _;rw[zve];simp[l241_0];exact Gh.here (hΨ _ _ ⟨rfl,rfl⟩)
theorem zjj{g:XH}{v:XV}{l:List Li}(hr:RdX g 189 2 jy v l)(hl:l.length≤100000)(a:Int):Cl C (fun _=>False) 176 [.s v,fi a] g fun u g'=>u=fi (if zaJ l then yK l a else 0)∧g'=g:=by
 refine Cl.ip rfl (zuF rfl) fun Ψ hΨ=> ?_;simp;refine zb.go0 (zdD hr hl) ?_;simp;refine zc (fun k1=> ?_) (fun k1=> ?_)
 ·simp;refine zb.go0 (zdE hr k1 a) ?_;simp;exact Gh.here (hΨ _ _ ⟨by simp[k1],rfl⟩)
 ·simp;exact Gh.here (hΨ _ _ ⟨by simp[k1],rfl⟩)
def Za(l:List Li)(k:Nat):List Li:=((List.range k).map fun(j:Nat)=>(⟨(j:Int)+1,yK l ((j:Int)+1)⟩:Li)).filter fun x=>x.n !=0
theorem zhN(l:List Li)(k:Nat):Za l (k+1)=if yK l ((k:Int)+1)=0 then Za l k else Za l k++[⟨(k:Int)+1,yK l ((k:Int)+1)⟩]:=by
 unfold Za;rw[zx0,zvp,zwB];split
 ·rename_i h;simp[h]
 ·rename_i h;simp[h]
theorem zju(l:List Li)(k:Nat):(Za l k).length≤k:=by unfold Za;have:=zv6 (fun x:Li=>x.n !=0) ((List.range k).map fun(j:Nat)=>(⟨(j:Int)+1,yK l ((j:Int)+1)⟩:Li));rw[zu9,zxQ] at this;exact this
theorem zgj{g:XH}{v:XV}{l:List Li}(hr:RdX g 189 2 jy v l)(hl:l.length≤100000):Cl C (fun _=>False) 228 [.s v] g fun u g'=>u= .s (zjm (if zaJ l then jB l else[]))∧g'=g:=by
 refine Cl.ip rfl (zuF rfl) fun Ψ hΨ=> ?_;simp;refine zb.go0 (zdD hr hl) ?_;simp;refine zc (fun k1=> ?_) (fun k1=> ?_)
 rotate_left
 ·simp;exact Gh.pure0 (u':= .s (.lst 189 2 0 [])) (.s .nil) (hΨ _ _ ⟨by simp[k1],rfl⟩)
 simp;refine zb.go0 zep ?_;have ha:zlk.length=7:=rfl;have haq:∀(q:Nat) (h:q<zlk.length),zlk[q]=(q:Int)+1:=by decide
 simp[ha];refine Lp.genG 189 2 (σ:=Nat) 7 (fun k w=>[(3,.s (.sl g.length w 0 (Za l k).length)),(12,fi k)]) (fun k w=>g++[.own w 189 2 ((Za l k).flatMap jy)]) (fun _ _=>True) 0 (by decide) rfl (by simp[GhF,Za]) (by simp[Za]) trivial ?_ ?_
 ·rintro q hq w _ hlt N hN;have hml:=zju l q;have hfl:((Za l q).flatMap jy).length=(Za l q).length*2:=zg y9 _;rw[zhN] at hN;have hqa:q<zlk.length:=by rw[ha];exact hq
  have e:=zaL hqa;rw[haq q hqa] at e;have e2:=haq q hqa;generalize Za l q=M at *;simp[l228_0,show(q:Int)<7 by omega,hq,hqa,e];refine zb.go0 (zdE hr.app k1 ((q:Int)+1)) ?_;simp;refine zc (fun k2=> ?_) (fun k2=> ?_)
  ·simp at k2;rw[zuQ k2] at hN;simp[hfl,show(M.length+1)*16≤140737488355328 by omega,yN hq (by omega)];exact jo (fun fr g'=>hN (w+1) fr g' trivial) (by simp[jy]) (by simp) (by simpa using hlt) (by simp[lvO])
  ·simp at k2;rw[zuO k2] at hN;simp[yN hq (by omega)];exact jo (fun fr g'=>hN w fr g' trivial) rfl (by simp) (by simpa using hlt) (by simp[lvO])
 ·rintro w _;simp[l228_0];exact Gh.pure (.s (.fl (t:=189) y9 (fun m a=>zcA a m) (zuL _) (by simp))) (hΨ _ _ ⟨by rw[zuO k1];rfl,rfl⟩)
def yf(l:List Li):List Li:=l.map fun x=>⟨x.a,wr (-x.n)⟩
theorem J2{g:XH}{v:XV}{l:List Li}(hr:RdX g 189 2 jy v l)(hl:l.length≤100000):Cl C (fun _=>False) 156 [.s v] g fun u g'=>u= .s (zjm (yf l))∧g'=g:=by
 refine Cl.ip rfl (zuF rfl) fun Ψ hΨ=> ?_;simp[hr.len];refine Lp.genG 189 2 (σ:=Nat) l.length (fun k w=>[(3,.s (.sl g.length w 0 k)),(8,fi k)]) (fun k w=>g++[.own w 189 2 ((yf (l.take k)).flatMap jy)]) (fun _ _=>True) 0 (by decide) rfl (by simp[GhF]) (by simp[yf]) trivial ?_ ?_
 ·rintro q hq w _ hlt N hN;obtain⟨p1,cs,o1,b1,b2,b3,b4,b5,_⟩:=hr.atJ y9 (by decide) hq;have e1:yf (l.take (q+1))=yf (l.take q)++[⟨l[q].a,wr (-l[q].n)⟩]:=by unfold yf;rw[zu6 hq,zvp];rfl
  have hfl:((yf (l.take q)).flatMap jy).length=q*2:=by rw[zg y9];simp[yf];omega
  have hlF:∀m,zw m ((yf (l.take q)).flatMap jy):=fun m=>znq m _;rw[e1,zvw] at hN;generalize(yf (l.take q)).flatMap jy=F at *;simp[l156_0,hq,b3,b4,b5,jy,hfl,show(q+1)*16≤140737488355328 by omega,yN hq (by omega)];exact jo (fun fr g'=>hN (w+1) fr g' trivial) (by simp[jy]) (by simp) (by simpa using hlt) (by simp[lvO,hlF,jy])
 ·rintro w _;rw[zve];have hrl:(yf l).length=l.length:=by simp[yf]
  rw[←hrl];simp[l156_0];exact Gh.pure (.s (.fl (t:=189) y9 (fun m a=>zcA a m) (zuL _) (by simp))) (hΨ _ _ ⟨rfl,rfl⟩)
def Y7(p:Pro):List Li:=[⟨1,p.cur.tax⟩,⟨7,p.inp.up⟩,⟨2,wr (wr (-p.cur.tax)-p.inp.up)⟩,⟨3,p.deferred⟩,⟨4,wr (p.cl.temp-p.op.temp)⟩,⟨5,wr (p.cl.loss-p.op.loss)⟩,⟨6,wr (p.cl.allow-p.op.allow)⟩]
def qa(p:Pro):List Li:=if zaJ (Y7 p) then jB (Y7 p) else[]
set_option maxRecDepth 8000 in
theorem za4{g:XH}(p:Pro):Cl C (fun _=>False) 153 [.agg (zF p)] g fun u g'=>u= .s (zjm (qa p))∧g'=g:=by refine Cl.ip rfl (zuF rfl) fun Ψ hΨ=> ?_;simp[zF,pC,zT,zj,zD];refine zz 7 [1] (fun _=>False) (by decide) (by decide) ?_;simp only[zu3,zvs,zvd,zu8];simp;have hq:=fun(G:XH) (i:Nat) (h:G[i]? =some (.own 0 189 2 ((Y7 p).flatMap jy)))=>zgj (g:=G) (RdX.sl y9 h) (by simp[Y7]);refine zb.go0 (hq _ (g.length+3) (by simp[Y7,jy])) ?_;simp;exact Gh.pure (.s (.lt (by simp))) (hΨ _ _ ⟨rfl,rfl⟩)
def yX(x:It):List XV:=[xi x.k,xi x.n]
theorem z8(x:It):(yX x).length=2:=rfl
@[simp] theorem zcB(x:It)(m:Nat):zw m (yX x):=by simp[yX]
@[simp] theorem znt(m:Nat)(l:List It):zw m (l.flatMap yX):=zZ (fun a=>zcB a m) l
abbrev QS(l:List It):XV:= .lst 43 2 l.length (l.flatMap yX)
def zex(l:List It):Int:=l.foldl (fun n x=>wr (n+x.n)) 0
theorem zij{g:XH}{v:XV}{l:List It}(hr:RdX g 43 2 yX v l)(hl:l.length≤1000):Cl C (fun _=>False) 37 [.s v] g fun u g'=>u=fi (zex l)∧g'=g:=by
 refine Cl.ip rfl (zuF rfl) fun Ψ hΨ=> ?_;simp[hr.len];refine Lp.foldU l (fun k (s:Int)=>[(3,fi s),(8,fi k)]) (fun _ _=>g) (fun n x=>wr (n+x.n)) 0 (by decide) rfl (by simp) rfl ?_ ?_
 ·rintro q hq s hs hlt N hN;obtain⟨p1,cs,o1,b1,b2,b3,b4,b5,_⟩:=hr.atJ z8 (by decide) hq;simp[l37_0,hq,b1,b2,b4,b5,yX,yN hq (by omega)];exact Jb hN (by simp) (by simpa using hlt)
 ·rintro s rfl;simp[l37_0];exact Gh.here (hΨ _ _ ⟨rfl,rfl⟩)
theorem zda(r:Int):∀(l:List Wa) (s:List Int) (k:Nat) (h1:k<l.length) (h2:k<s.length),jC r (l.take (k+1)) (s.take (k+1))=jC r (l.take k) (s.take k)+(zd l[k].m s[k]-zd l[k].m r)
 |[],_,k,h1,_=>by simp at h1
 |_::_,[],k,_,h2=>by simp at h2
 |b::l,x::s,0,_,_=>by simp[jC]
 |b::l,x::s,k+1,h1,h2=>by simp only[zu3,jC,zwg];rw[zda r l s k (by simpa using h1) (by simpa using h2)];omega
theorem zc9(r:Int):∀(l:List Wa) (s:List Int),-(8000000000002*(l.length:Int))≤jC r l s∧jC r l s≤8000000000002*(l.length:Int)
 |[],_=>by simp[jC]
 |b::l,[]=>by simp[jC];omega
 |b::l,x::s=>by have h1:=zc9 r l s;have h2:=zB b.m x;have h3:=zB b.m r;simp only[jC,zvr,zwu,zw4];omega
structure ProL(p:Pro):Prop where
 rows:p.rows.length≤800
 now:p.rows.length=p.now.length
 vec:p.cur.vec.length≤400
 op:BalL p.op
 cl:BalL p.cl
def zgF(p:Pro):Int:=(zd (wr (p.cur.used-p.cur.new)) p.cl.next-zd (wr (p.cur.used-p.cur.new)) p.rate)+jC p.rate p.rows p.now
set_option maxRecDepth 8000 in
theorem zjI{g:XH}{p:Pro}(hp:ProL p):Cl C (fun _=>False) 84 [.agg (zF p)] g fun u g'=>u=fi (zgF p)∧g'=g:=by
 have hrl:=hp.rows;have hnl:=hp.now;refine Cl.ip rfl (zuF rfl) fun Ψ hΨ=> ?_;simp[zF,pC,zT,zj,zD];refine zb.pure (zm0 ..) ?_;have hb0:=zB (wr (p.cur.used-p.cur.new)) p.cl.next
 have hb1:=zB (wr (p.cur.used-p.cur.new)) p.rate;have h00:zgF p=(zd (wr (p.cur.used-p.cur.new)) p.cl.next-zd (wr (p.cur.used-p.cur.new)) p.rate)+jC p.rate p.rows p.now:=rfl;simp;generalize hB:zd (wr (p.cur.used-p.cur.new)) p.cl.next-zd (wr (p.cur.used-p.cur.new)) p.rate=B at *
 refine Lp.genU (σ:=Unit) p.rows.length (fun k _=>[(3,fi (B+jC p.rate (p.rows.take k) (p.now.take k))),(22,fi k)]) (fun _ _=>g++[.own 0 84 41 (zF p)]) (fun _ _=>True) () (by decide) rfl (by simp[jC]) rfl trivial ?_ ?_
 ·rintro q hq _ _ hlt N hN;obtain⟨a1,a2,_⟩:=atX yl hq;have hqn:q<p.now.length:=by omega
  have e1:=zaL hqn;have e2:=zda p.rate p.rows p.now q hq hqn;have hb2:=zc9 p.rate (p.rows.take q) (p.now.take q);have hb3:=zB p.rows[q].m p.now[q];have hb4:=zB p.rows[q].m p.rate;rw[zu0,zvu (by omega)] at hb2;have w1:IntKind.i64.wrap (B+jC p.rate (p.rows.take q) (p.now.take q)+(zd p.rows[q].m p.now[q]-zd p.rows[q].m p.rate))=B+jC p.rate (p.rows.take (q+1)) (p.now.take (q+1)):=by rw[e2,ze (by omega) (by omega)];omega
  simp[l84_0,hq,hqn,a1,a2,e1,jK,zF,pC,zT,zj,zD];refine zb.pure (zm0 ..) ?_;simp[w1,yN hq (by omega)];exact jo (fun fr g'=>hN () fr g' trivial) (by simp[zF,pC,zT,zj,zD]) (by simp) (by simp) (by simp[lvO])
 ·rintro _ _;rw[zve,zvA (by omega)];simp[l84_0];exact Gh.pure .i (hΨ _ _ ⟨by rw[h00],rfl⟩)
def Y5(p:Pro):List It:=[⟨1,zd p.inp.book p.rate⟩,⟨2,zd p.inp.perm p.rate⟩,⟨3,zgF p⟩,⟨4,wr (p.tr+p.lr)⟩,⟨5,p.am⟩,⟨6,zd p.cur.expired p.cl.next⟩,⟨7,p.inp.up⟩]
def qm(p:Pro):List It:=Y5 p++[⟨8,wr (p.total-zex (Y5 p))⟩]
set_option maxRecDepth 8000 in
theorem zjH{g:XH}{p:Pro}(hp:ProL p):Cl C (fun _=>False) 34 [.agg (zF p)] g fun u g'=>u= .s (QS (qm p))∧g'=g:=by refine Cl.ip rfl (zuF rfl) fun Ψ hΨ=> ?_;have hR:=fun g:XH=>zjI (g:=g) hp;simp[zF,pC,zT,zj,zD] at hR⊢;refine zz 38 [1] (fun _=>False) (by decide) (by decide) ?_;simp only[zu3,zvs,zvd,zu8];simp;refine zb.pure (zkQ ..) ?_;simp;refine zb.pure (zkQ ..) ?_;simp;refine zb.go0 (hR _) ?_;simp;refine zb.pure (zkQ ..) ?_;simp;refine zz 5 [1] (fun _=>False) (by decide) (by decide) ?_;simp only[zu3,zvs,zvd,zu8];simp;refine zb.go0 (zij (RdX.sl (l:=Y5 p) (i:=g.length+1) (w:=0) z8 (by simp[Y5,yX])) (by simp[Y5])) ?_;simp;refine Gh.pure (u':= .s (QS (qm p))) (.s (.fl (l:=qm p) (t:=43) z8 (fun m a=>zcB a m) (by omega) ?_)) (hΨ _ _ ⟨rfl,rfl⟩);simp[qm,Y5,yX]
def Ju(n:Int):Bool:=decide (-400000000000≤n∧n≤400000000000)
theorem nearQ(n:Int):Pure C 81 [fi n] (fb (Ju n)):=by
 refine Pure.intro0 (e:=e81) rfl (zuF rfl) (by simp) fun g Ψ h0 hJ=> ?_;simp
 repeat' first|(refine zc (fun hc=> ?_) (fun hc=> ?_)<;>try simp)
 all_goals(simp at *;exact Zv h0 (by simp[Ju, *]<;>omega))
def y8(x:It)(fx:Int):It:=⟨x.k,zd x.n fx⟩
def qc(l:List It):Int:=(l.map (·.n)).sum
def jL(l:List It)(fx:Int):Int×List It×Int:=
 if fx<1∨10000000<fx∨20<l.length then(1,[],0)
 else if¬l.all (fun x=>Ju x.n)=true then(1,[],0)
 else if¬qp (qc l) fx then(1,[],0)
 else(0,l.map fun x=>y8 x fx,zd (qc l) fx-qc (l.map fun x=>y8 x fx))
theorem zmt(l:List It){k:Nat}(hk:k<l.length):qc (l.take (k+1))=qc (l.take k)+l[k].n:=by unfold qc;rw[zu6 hk,zvp,zwJ];simp
theorem zoS(l:List It)(x:It):qc (l++[x])=qc l+x.n:=by simp[qc]
theorem zgU(B:Int)(hB:0≤B):∀(l:List It),(∀x∈l,-B≤x.n∧x.n≤B)→-(B*(l.length:Int))≤qc l∧qc l≤B*(l.length:Int):=fun l h=>zbU (fun x:It=>x.n) B hB l h
theorem zlN{g:XH}{v:XV}{l:List It}(hr:RdX g 43 2 yX v l)(hl:l.length≤1000)(fx:Int):Cl C (fun _=>False) 33 [.s v,fi fx] g fun u g'=>u= .tup [.s (QS (jL l fx).2.1),fi (jL l fx).2.2,fi (jL l fx).1]∧g'=g:=by
 refine Cl.ip rfl (zuF rfl) fun Ψ hΨ=> ?_;have bad:∀J,jL l fx=(1,[],0)→Gh (fun _=>False) g Ψ (.tup [.s (.v .nils),fi 0,fi 1]) (g++J):=fun J h=>Gh.pure (u':= .tup [.s (.lst 43 2 0 []),fi 0,fi 1]) (.cons (.s .nil) (.cons .i (.cons .i .nil))) (hΨ _ _ ⟨by rw[h];rfl,rfl⟩);have bad0:jL l fx=(1,[],0)→Gh (fun _=>False) g Ψ (.tup [.s (.v .nils),fi 0,fi 1]) g:=fun h=>by simpa using bad [] h
 simp[hr.len];refine zc (fun h1=> ?_) (fun h1=> ?_)
 ·simp at h1⊢;exact bad0 (by unfold jL;rw[zuO (.inl h1)])
 simp at h1⊢;refine zc (fun h2=> ?_) (fun h2=> ?_)
 ·simp at h2⊢;exact bad0 (by unfold jL;rw[zuO (.inr (.inl h2))])
 simp at h2;simp[hr.len];refine zc (fun h3=> ?_) (fun h3=> ?_)
 ·simp at h3⊢;exact bad0 (by unfold jL;rw[zuO (.inr (.inr (by omega)))])
 simp at h3
 have e0:jL l fx=if¬l.all (fun x=>Ju x.n)=true then(1,[],0)
  else if¬qp (qc l) fx then(1,[],0)
  else(0,l.map fun x=>y8 x fx,zd (qc l) fx-qc (l.map fun x=>y8 x fx)):=by unfold jL;rw[zuQ (by omega)]
 simp[hr.len];refine Lp.genG 43 2 (σ:=Nat) l.length (fun k w=>[(7,fi (qc (l.take k))),(8,fi (qc ((l.take k).map fun x=>y8 x fx))),(9,.s (.sl g.length w 0 k)),(29,fi k)]) (fun k w=>g++[.own w 43 2 (((l.take k).map fun x=>y8 x fx).flatMap yX)]) (fun k _=>(l.take k).all (fun x=>Ju x.n)=true) 0 (by decide) rfl (by simp[GhF,qc]) (by simp) (by simp) ?_ ?_
 ·rintro q hq w hP hlt N hN;obtain⟨p1,cs,o1,b1,b2,b3,b4,b5,_⟩:=hr.atJ z8 (by decide) hq;have e1:(l.take (q+1)).map (fun x=>y8 x fx)=(l.take q).map (fun x=>y8 x fx)++[y8 l[q] fx]:=by rw[zu6 hq,zvp];rfl
  have e2:=zmt l hq;have e3:(l.take (q+1)).all (fun x=>Ju x.n)=((l.take q).all (fun x=>Ju x.n)&&Ju l[q].n):=zav hq;have hb1:=zgU 400000000000 (by omega) (l.take q) fun x hx=>by have:=zu4.1 hP x hx;simpa[Ju] using this
  have hb2:=zgU 4000000000001 (by omega) ((l.take q).map fun x=>y8 x fx) fun x hx=>by obtain⟨y,_,rfl⟩:=zvV.1 hx;exact zB _ _
  rw[zu9] at hb2;rw[zu0,zvu (by omega)] at hb1 hb2;have hb3:=zB l[q].n fx;have hfl:(((l.take q).map fun x=>y8 x fx).flatMap yX).length=q*2:=by rw[zg z8];simp;omega
  have hlF:∀m,zw m (((l.take q).map fun x=>y8 x fx).flatMap yX):=fun m=>znt m _;have w2:IntKind.i64.wrap (qc ((l.take q).map fun x=>y8 x fx)+zd l[q].n fx)=qc ((l.take q).map (fun x=>y8 x fx)++[y8 l[q] fx]):=by rw[zoS];exact ze (by simp only[y8] at *;omega) (by simp only[y8] at *;omega)
  rw[e1,zvw] at hN;generalize hF:((l.take q).map fun x=>y8 x fx).flatMap yX=F at *;simp[-List.map_take,l33_0,hq,b3,b4,b5,yX];refine zb.pure (nearQ ..) ?_;simp[-List.map_take];refine zc (fun k1=> ?_) (fun k1=> ?_)
  rotate_left
  ·simp;refine bad _ ?_;rw[e0,zuO];intro h;have:=zu4.1 h _ (zvk hq);simp[k1] at this
  have hn:Ju l[q].n=true:=k1;simp[-List.map_take];refine zb.pure (ofX ..) ?_;have w1:IntKind.i64.wrap (qc (l.take q)+l[q].n)=qc (l.take (q+1)):=by rw[e2];simp[Ju] at hn;exact ze (by omega) (by omega)
  simp[-List.map_take,w1,w2,hfl,show(q+1)*16≤140737488355328 by omega,yN hq (by omega)];exact jo (fun fr g'=>hN (w+1) fr g' (by rw[e3,hP,hn];rfl)) (by simp[yX,y8]) (by simp[-List.map_take]) (by simpa using hlt) (by simp[lvO,hlF])
 ·rintro w hP;rw[zve] at hP⊢;rw[zuQ (by simpa using hP)] at e0;have hb2:=zgU 4000000000001 (by omega) (l.map fun x=>y8 x fx) fun x hx=>by
   obtain⟨y,_,rfl⟩:=zvV.1 hx;exact zB _ _
  rw[zu9] at hb2;have hb3:=zB (qc l) fx;have hw:IntKind.i64.wrap (zd (qc l) fx-qc (l.map fun x=>y8 x fx))=zd (qc l) fx-qc (l.map fun x=>y8 x fx):=ze (by omega) (by omega);simp[l33_0];refine zb.pure (ofX ..) ?_;simp[hw];refine zc (fun k1=> ?_) (fun k1=> ?_)
  ·simp at k1;rw[zuQ (by simpa using k1)] at e0;simp[hw];exact Gh.pure (u':= .tup [.s (QS (l.map fun x=>y8 x fx)),fi (zd (qc l) fx-qc (l.map fun x=>y8 x fx)),fi 0]) (.cons (.s (by
    rw[show l.length=(l.map fun x=>y8 x fx).length by simp];exact .fl (t:=43) z8 (fun m a=>zcB a m) (zuL _) (by simp))) (.cons .i (.cons .i .nil))) (hΨ _ _ ⟨by rw[e0],rfl⟩)
  ·simp at k1;rw[zuO (by simpa using k1)] at e0;simp;exact bad _ e0
theorem growX{g:XH}{n:Int}(h0:0≤n)(h1:n≤1000000):Cl C (fun _=>False) 161 [.s (.v .nils),fi n] g (Zo g 43 2 0 []):=by
 rintro R args1 rfl H ra;obtain⟨a1,a2,rfl,q1,q2⟩:∃a1 a2,args1=[.s a1,.s a2]∧RV R (.v .nils) a1∧RV R (xi n) a2:=by
  match args1,ra with
  |[.s a1,.s a2],h=>simp only[RFs,RF] at h;exact⟨a1,a2,rfl,h.1,h.2.1⟩
  |[],h=>simp[RFs] at h
  |[_],h=>simp[RFs] at h
  |_::_::_::_,h=>simp[RFs] at h
  | .agg _::_,h=>simp[RFs,RF] at h
  | .tup _::_,h=>simp[RFs,RF] at h
  | .s _:: .agg _::_,h=>simp[RFs,RF] at h
  | .s _:: .tup _::_,h=>simp[RFs,RF] at h
 simp only[RV] at q1 q2;obtain⟨rfl,_⟩:=q1;obtain⟨rfl,_⟩:=q2;by_cases hn:n=0
 ·have hg:zaP [.s .nils,.s (.int .i64 n)] R.h=some ([.s .nils],R.h):=by
   simp[zaP,h0,h1,hn]
  have hc:=ZC (C:=C) (f:=161) (g:=zaP) (k:=2) rfl (args:=[.s .nils,.s (.int .i64 n)]) (h:=R.h) (h':=R.h) (v:= .s .nils) rfl hg (zuL _) rfl;have:=zks (W:=fun _=>False) (g:=R.g) (t:=43) (z:=2) (Ψ:=Zo R.g 43 2 0 []) (fun _ _ h=>h);obtain⟨R2,u2,b1,b2,b3,b4,b5⟩:=this R R (.s .nils) rfl H H (Ex2.refl _ _) rfl (by simp[RF,RV,nlS]);exact⟨.s .nils,R.h,hc,R2,u2,b1,b2,b3,b4,b5⟩
 ·have hg:zaP [.s .nils,.s (.int .i64 n)] R.h=some ([.s (.sl R.h.length 0 0 0)],R.h++[.own 43 []]):=by
   simp[zaP,h0,h1,hn]
  have hc:=ZC (C:=C) (f:=161) (g:=zaP) (k:=2) rfl (args:=[.s .nils,.s (.int .i64 n)]) (h:=R.h) (h':=R.h++[.own 43 []]) (v:= .s (.sl R.h.length 0 0 0)) rfl hg (by simp) rfl;have:=QG H (w:=0) (t:=43) (z:=2) (cs:=[]) (vs:=[]) (by simp[RVs]);exact⟨_,_,hc,R.new (.own 0 43 2 []) (.own 43 []),.s (.sl R.g.length 0 0 0),rfl,this.1,Yx _ _ _ _,by simp only[RF];exact(QH 0).2,0,rfl,rfl⟩
theorem zm4{α:Type}{enc:α→List XV}{t z y:Nat}(he:∀a,(enc a).length=z)(hz:z≠0){g:XH}{w:Nat}{M a:List α}(hy:(M.length+a.length)*y≤140737488355328):∃w',zco (g++[.own w t z (M.flatMap enc)]) t z y (.s (.sl g.length w 0 M.length)) a.length (a.flatMap enc)=some (.s (.sl g.length w' 0 (M++a).length),g++[.own w' t z ((M++a).flatMap enc)]):=by
 have hl:(M.flatMap enc).length=M.length*z:=zg he M;by_cases h0:a.length=0
 ·have ha:a=[]:=zvU h0;subst ha;refine⟨w,?_⟩;simp[zm2]
 ·refine⟨w+1,?_⟩;rw[zfH h0];have h1:(a.flatMap enc).length≠0:=by rw[zg he];exact zxo h0 hz
  rw[zuQ h1];simp[hl,hy]
theorem zqb{g:XH}{k w:Nat}{va vb:XV}{a b:List It}(hk:g[k]? =some (.own w 32 1 [va,vb]))(ha:RdX g 43 2 yX va a)(hb:RdX g 43 2 yX vb b)(hal:a.length≤1000)(hbl:b.length≤1000):
 Cl C (fun _=>False) 85 [.s (.sl k w 0 2)] g (Zo g 43 2 (a++b).length ((a++b).flatMap yX)):=by
 have lk:=zf hk;refine Cl.ip rfl (zuF rfl) fun Ψ hΨ=> ?_;simp;refine Lp.genU (σ:=Unit) 2 (fun k _=>[(3,fi (if k=0 then 0 else if k=1 then(a.length:Int) else((a.length+b.length:Nat):Int))),(11,fi k)]) (fun _ _=>g) (fun _ _=>True) () (by decide) rfl (by simp) rfl trivial ?_ ?_
 ·rintro q hq _ _ hlt N hN;have hla:=ha.len;have hlb:=hb.len;obtain rfl|rfl:q=0∨q=1:=by omega
  ·simp[l85_0,hk,lk,hla,ze (n:=(a.length:Int)) (by omega) (by omega),show¬(a.length:Int)<0 by omega,show IntKind.i64.wrap 1=1 from rfl];exact qJ () hN trivial (by simp) (by simpa using hlt)
  ·simp[l85_0,hk,lk,hlb,ze (n:=(a.length:Int)+b.length) (by omega) (by omega),show¬(a.length:Int)+b.length<0 by omega,show IntKind.i64.wrap 2=2 from rfl];exact qJ () hN trivial (by simp) (by simpa using hlt)
 ·rintro _ _;simp[l85_0];refine zb.go (growX (n:=(a.length:Int)+b.length) (by omega) (by omega)) (fun _ _ h=>h.elim) ?_;rintro u g' ⟨w1,rfl,rfl⟩;simp;refine Lp.genU (σ:=Nat) 2 (fun k w=>[(6,.s (.sl g.length w 0 (if k=0 then([]:List It) else if k=1 then a else a++b).length)),(27,fi k)]) (fun k w=>g++[.own w 43 2 ((if k=0 then([]:List It) else if k=1 then a else a++b).flatMap yX)]) (fun _ _=>True) w1 (by decide) rfl (by simp) (by simp) trivial ?_ ?_
  ·rintro q hq w2 _ hlt N hN;obtain rfl|rfl:q=0∨q=1:=by omega
   ·obtain⟨w3,h3⟩:=zm4 (g:=g) (t:=43) (y:=16) z8 (by decide) (w:=w2) (M:=[]) (a:=a) (by simp;omega);have h4:=fun J=>(ha.app (J:=J)).el;simp at h3 h4 hN hlt;simp[l85_1,hk,lk,h4,h3,show IntKind.i64.wrap 1=1 from rfl];exact jo (fun fr g'=>hN w3 fr g') rfl (by simp) (by simp[lk];omega) (by simp[lvO])
   ·obtain⟨w3,h3⟩:=zm4 (g:=g) (t:=43) (y:=16) z8 (by decide) (w:=w2) (M:=a) (a:=b) (by omega);have h4:=fun J=>(hb.app (J:=J)).el;simp at h3 h4 hN hlt;simp[l85_1,hk,lk,h4,h3,show IntKind.i64.wrap 2=2 from rfl];exact jo (fun fr g'=>hN w3 fr g') rfl (by simp) (by simp[lk];omega) (by simp[lvO])
  ·rintro w2 _;simp[l85_1];rw[←zuM,←zvw];exact zhr (k:=0) (J:=[.own w2 43 2 ((a++b).flatMap yX)]) rfl (by simp) (fun u g' h=>hΨ u g' h)
def zgm(k:Int)(x:It):Bool:=x.k==k
theorem keyTP(x y:It){g:XH}{a:Nat}(ha:g[a]? =some (.own 0 43 2 (yX y))):Cl C (fun _=>False) 87 [.agg (yX x),.s (.ptr a 0 0)] g fun u g'=>u=fb (zgm y.k x)∧g'=g:=by have la:=zf ha;refine Cl.ip rfl (zuF rfl) fun Ψ hΨ=> ?_;simp[yX] at ha⊢;simp[ha,la];exact Gh.pure (.s (.lt (by simp))) (hΨ _ _ ⟨by simp[zgm],rfl⟩)
def za5(k:Int)(f:It→It):List It→List It
 |[]=>[f ⟨k,0⟩]
 |x::l=>if zgm k x then f x::l else x::za5 k f l
theorem zai(k:Int)(f:It→It):∀(l:List It) (j:Nat),(ym (zgm k) j l= -1∧za5 k f l=l++[f ⟨k,0⟩])∨∃i,ym (zgm k) j l=((j+i:Nat):Int)∧∃h:i<l.length,za5 k f l=l.set i (f l[i])
 |[],j=> .inl ⟨rfl,rfl⟩
 |x::l,j=>by
  unfold ym za5;cases hk:zgm k x with
  |true=>exact .inr ⟨0,by simp,by simp,by simp⟩
  |false=>
   rcases zai k f l (j+1) with⟨h1,h2⟩|⟨i,h1,h2,h3⟩
   ·exact .inl ⟨by simpa using h1,by simp[h2]⟩
   ·exact .inr ⟨i+1,by simp only[zva,if_false];rw[h1];congr 1;omega,by simpa using h2,by simp[h3]⟩
theorem zov(k:Int)(f:It→It)(l:List It):(za5 k f l).length≤l.length+1:=by rcases zai k f l 0 with⟨_,h⟩|⟨i,_,_,h⟩<;>rw[h]<;>simp
def QP(l:List It)(x:It):List It:=za5 x.k (fun y=>⟨y.k,wr (y.n+x.n)⟩) l
theorem zat:∀(b:List It) (l:List It),(b.foldl QP l).length≤l.length+b.length
 |[],l=>by simp
 |x::b,l=>by have h1:=zat b (QP l x);have h2:=zov x.k (fun y=>⟨y.k,wr (y.n+x.n)⟩) l;simp only[zwv,zvr];unfold QP at h1⊢;omega
def ltT(a b:It):Bool:=decide (a.k<b.k)
def zcS(a b:List It):List It:=zt ltT ((a++b).foldl QP [])
def zeK(l:List It):Prop:=l.Pairwise fun a b=>a.k≠b.k
theorem zdc:∀{l:List It},zeK l→jH ltT l=true
 |[],_=>rfl
 |x::l,h=>by obtain⟨h1,h2⟩:=zu7.1 h;simp only[jH,zuP,zu4];refine⟨fun y hy=> ?_,zdc h2⟩;have:=h1 y hy;simp[ltT];omega
theorem zid{k:Int}{f:It→It}(hf:∀w,(f w).k=w.k):∀{l:List It} {x:It},x∈za5 k f l→x.k=k∨∃z∈l,x.k=z.k
 |[],x,h=>by
  simp[za5] at h;subst h;exact .inl (hf _)
 |z::l,x,h=>by
  unfold za5 at h;split at h
  ·rcases zuX.1 h with rfl|h
   ·exact .inr ⟨z,by simp,hf z⟩
   ·exact .inr ⟨x,by simp[h],rfl⟩
  ·rcases zuX.1 h with rfl|h
   ·exact .inr ⟨x,by simp,rfl⟩
   ·rcases zid hf h with h|⟨z',h1,h2⟩
    ·exact .inl h
    ·exact .inr ⟨z',by simp[h1],h2⟩
theorem zff{k:Int}{f:It→It}(hf:∀w,(f w).k=w.k):∀{l:List It},zeK l→zeK (za5 k f l)
 |[],_=>by simp[za5,zeK]
 |z::l,h=>by
  obtain⟨h1,h2⟩:=zu7.1 h;unfold za5;split
  ·refine zu7.2 ⟨fun a ha=> ?_,h2⟩;rw[hf z];exact h1 a ha
  ·rename_i hk;refine zu7.2 ⟨fun a ha=> ?_,zff hf h2⟩;rcases zid hf ha with e1|⟨z',hz,e1⟩
   ·rw[e1];simpa[zgm] using hk
   ·rw[e1];exact h1 z' hz
theorem zdt:∀(b:List It) (l:List It),zeK l→zeK (b.foldl QP l)
 |[],_,h=>h
 |x::b,l,h=>zdt b (QP l x) (zff (f:=fun y=>⟨y.k,wr (y.n+x.n)⟩) (fun _=>rfl) h)
def cT(b:It):List SV:=[.int .i64 b.k,.int .i64 b.n]
theorem zkh(l:List It):(l.flatMap cT).map XV.v=l.flatMap yX:=by rw[zxi];rfl
theorem ltK_T(a b:It):ltK [0] (cT a) (cT b)=ltT a b:=by simp[ltK,cT,ltT]
theorem fxAdd{g:XH}{va vb:XV}{a b:List It}(ha:RdX g 43 2 yX va a)(hb:RdX g 43 2 yX vb b)(hal:a.length≤400)(hbl:b.length≤400):
 Cl C (fun _=>False) 35 [.s va,.s vb] g fun u g'=>u= .s (QS (zcS a b))∧g'=g:=by
 refine Cl.ip rfl (zuF rfl) fun Ψ hΨ=> ?_;simp;refine zb.go (Fresh.frz (zqb (k:=g.length) (w:=0) (va:=va) (vb:=vb) (by simp) ha.app hb.app (by omega) (by omega)) (by simp) (by rw[zg z8])) (fun _ _ h=>h.elim) ?_;rintro u g' ⟨rfl,rfl⟩;have h0:zcS a b=zt ltT ((a++b).foldl QP []):=rfl;have hll:(a++b).length≤800:=by simp;omega
 have hdist:=zdc (zdt (a++b) [] List.Pairwise.nil);rw[h0] at hΨ;generalize a++b=l at *;simp;generalize hK:g++[XO.own 0 32 1 [va,vb]]=K;change XH at K;have hgK:g.length≤K.length:=by rw[←hK];simp
 refine Lp.genG 43 2 (σ:=Nat×List It) l.length (fun k s=>[(5,.s (.sl K.length s.1 0 s.2.length)),(14,fi k)]) (fun k s=>K++[.own s.1 43 2 (s.2.flatMap yX)]) (fun k s=>s.2=(l.take k).foldl QP []) (0,[]) (by decide) rfl (by simp[GhF]) (by simp) (by simp) ?_ ?_
 ·rintro q hq ⟨w,L⟩ hP hlt N hN;simp only at *;subst hP;have hLl:=zat (l.take q) [];rw[zu0,zv1] at hLl;have hs:=zbw QP [] l hq;generalize(l.take q).foldl QP []=L at *;obtain⟨a1,a2,_⟩:=atX z8 hq;have h2:=zg z8 L;have hI:=Yu (q:=zgm l[q].k) (f:=86) (t:=43) (z:=2) (enc:=yX) (c:= .cl (K.length+2)) (l:=L) (v:= .sl K.length w 0 L.length) (g:=K++[.own w 43 2 (L.flatMap yX),.own 0 43 2 [xi l[q].k,xi l[q].n],.clo 87 [] [.s (.ptr (K.length+1) 0 0)]]) rfl z8 (by decide) (RdX.sl z8 (by simp)) (by omega) (.inr ⟨K.length+2,87,[],[.s (.ptr (K.length+1) 0 0)],rfl,by simp,fun x _=>keyTP x l[q] (by simp[yX])⟩);simp[l35_0,hq,a1,a2,yX,hgK,show g.length≤K.length+1 by omega];refine zb.go0 hI ?_;clear hI;have hp:=zai l[q].k (fun y=>⟨y.k,wr (y.n+l[q].n)⟩) L 0;rcases hp with⟨e1,e2⟩|⟨i,e1,hi,e2⟩
  ·have h1:=jW z8 (l:=L++[⟨l[q].k,0⟩]) (k:=L.length) (by simp) (c:=1) (by decide) (v:=xi (wr (0+l[q].n))) (x:=⟨l[q].k,wr (0+l[q].n)⟩) (by simp[yX]) [];have e3:(L++[(⟨l[q].k,0⟩:It)]).set L.length ⟨l[q].k,wr (0+l[q].n)⟩=L++[⟨l[q].k,wr (0+l[q].n)⟩]:=by
    rw[zvO _ _ (zuL _),zvG];rfl
   rw[e3] at h1;simp[yX,zwz] at h1;have e4:QP L l[q]=L++[⟨l[q].k,wr (0+l[q].n)⟩]:=e2;have h5:((L.flatMap yX)++[xi l[q].k,xi 0])[L.length*2+1]? =some (xi 0):=by rw[zuN (by omega),h2];simp
   simp[e1,h2,hgK,show(L.length+1)*16≤140737488355328 by omega,h5,h1,show(L.length:Int)<L.length+1 by omega,show L.length*2+1+1≤L.length*2+2 by omega,yN hq (by omega)];exact jo (fun fr g'=>hN (w+1,QP L l[q]) fr g' hs.symm) (by rw[e4];simp[yX,zwz]) (by rw[e4];simp) (by rw[e4];simp) (by simp[lvO])
  ·rw[zvn] at e1;have h1:=jW z8 (l:=L) (k:=i) hi (c:=1) (by decide) (v:=xi (wr (L[i].n+l[q].n))) (x:=⟨L[i].k,wr (L[i].n+l[q].n)⟩) rfl [];simp only[zvl] at h1;have h3:i*2+1+1≤(L.flatMap yX).length:=by omega
   have h4:¬L.flatMap yX=[]:=fun e=>by rw[e] at h2;simp at h2;omega
   have h5:(L.flatMap yX)[i*2+1]? =some (xi L[i].n):=by have:=(atX z8 hi).2.2 1 (by decide);simpa[yX] using this
   rw[←e2] at h1;have e3:(za5 l[q].k (fun y=>⟨y.k,wr (y.n+l[q].n)⟩) L).length=L.length:=by rw[e2,zvi]
   simp[e1,hi,h1,h3,h4,h5,hgK,show¬(i:Int)<0 by omega,yN hq (by omega)];exact jo (fun fr g'=>hN (w,QP L l[q]) fr g' hs.symm) rfl (by simp[QP,e3]) (by simp) (by simp[lvO])
 ·rintro⟨w,L⟩ hP;simp only[zve] at *;subst hP;have hLl:=zat l [];rw[zv1] at hLl;generalize l.foldl QP []=L at *;simp[l35_0];refine zb.go (zbf (o:=0) (enc:=cT) (lta:=ltT) rfl (fun _=>rfl) (by decide) (fun a v hv=>by simp[cT] at hv;rcases hv with rfl|rfl<;>rfl) (fun _=>rfl) ltK_T (l:=L) (cs:=L.flatMap yX) (w:=w) (k:=K.length) (by simp) (by rw[zvn,zg z8];exact zuL _) (by rw[zvP,zu8,←zg z8,zve,zkh]) hdist (by omega)) (fun x hx e=> .inl (by omega)) ?_;rintro u g' ⟨rfl,rfl⟩;rw[zkh,zvP,ZX (by rw[zg z8,zg z8,zJ])];have hil:(zt ltT L).length=L.length:=zJ _ _;rw[←hil];simp;subst hK;rw[zvc];exact Gh.pure (.s (.fl (t:=43) z8 (fun m a=>zcB a m) (by simp) (by simp))) (hΨ _ _ ⟨rfl,rfl⟩)
def qY(j:Jo):List XV:=[xi j.seq,xs j.id,xi j.p,xi j.kind,xi j.of,zjm j.l]
theorem ZI(j:Jo):(qY j).length=6:=rfl
@[simp] theorem zfX(j:Jo)(m:Nat):zw m (qY j):=by simp[qY]
@[simp] theorem encJ_lvs(m:Nat)(l:List Jo):zw m (l.flatMap qY):=zZ (fun a=>zfX a m) l
def qw(g:XH)(i k:Nat)(l:List Jo):Prop:=∃w,g[i]? =some (.own 0 175 1 [.sl k w 0 l.length])∧g[k]? =some (.own w 184 6 (l.flatMap qY))
structure StoL(l:List Jo):Prop where
 len:l.length≤200
 l:∀j∈l,j.l.length≤20
theorem qw.app{g J:XH}{i k:Nat}{l:List Jo}(h:qw g i k l):qw (g++J) i k l:=by obtain⟨w,h1,h2⟩:=h;exact⟨w,by rw[zq (zf h1)];exact h1,by rw[zq (zf h2)];exact h2⟩
def zod(l:List Li)(a:Int):Int:=if zaJ l then yK l a else 0
def zlm(id:ByteArray)(a upto:Int)(n:Int)(j:Jo):Int:=if j.id==id&&decide (j.p≤upto) then wr (n+zod j.l a) else n
def zcU(l:List Jo)(id:ByteArray)(a upto:Int):Int:=l.foldl (zlm id a upto) 0
theorem zei{g:XH}{i k:Nat}{l:List Jo}(h:qw g i k l)(hl:StoL l)(id:ByteArray)(a upto:Int):Cl C (fun _=>False) 103 [.s (.ptr i 0 0),fs id,fi a,fi upto] g fun u g'=>u=fi (zcU l id a upto)∧g'=g:=by
 obtain⟨w,hi,hk⟩:=h;have li:=zf hi;have lk:=zf hk;have hll:=hl.len;refine Cl.ip rfl (zuF rfl) fun Ψ hΨ=> ?_;simp[hi,li];refine Lp.foldU l (fun q (s:Int)=>[(9,fi s),(17,fi q)]) (fun _ _=>g) (zlm id a upto) 0 (by decide) rfl (by simp) rfl ?_ ?_
 ·rintro q hq s hs hlt N hN;obtain⟨a1,a2,_⟩:=atX ZI hq;have hjl:=hl.l _ (zvk hq);have e:zlm id a upto s l[q]=if l[q].id==id&&decide (l[q].p≤upto) then wr (s+zod l[q].l a) else s:=rfl
  rw[e] at hN;clear e;generalize l[q]=j at *;simp[l103_0,hq,a1,a2,hk,lk,qY,jJ];refine zc (fun k1=> ?_) (fun k1=> ?_)
  ·simp at k1;simp;refine zc (fun k2=> ?_) (fun k2=> ?_)
   ·simp at k2;simp;refine zb.go0 (zjj (RdX.lst _ j.l) (by omega) a) ?_;simp[yN hq (by omega)];rw[zuO (by simp[k1,k2,yj])] at hN;exact Jb hN (by simp[zod]) (by simpa using hlt)
   ·simp at k2;simp[yN hq (by omega)];rw[zuQ (by simp[k1,yj];omega)] at hN;exact Jb hN (by simp) (by simpa using hlt)
  ·simp at k1;simp[yN hq (by omega)];rw[zuQ (by simp[k1,yj])] at hN;exact Jb hN (by simp) (by simpa using hlt)
 ·rintro s rfl;simp[l103_0];exact Gh.here (hΨ _ _ ⟨rfl,rfl⟩)
theorem zsN{g:XH}{v:XV}{l:List Li}(r:RdX g 189 2 jy v l)(hl:l.length≤1000000):Cl C (fun _=>False) 173 [.s v] g fun u g'=>u= .s (zjm l)∧g'=g:=
 zfJ (z:=2) rfl rfl rfl y9 (by decide) r (fun m a=>zcA a m) (by omega)
theorem znP{g:XH}{j:Jo}(hj:j.l.length≤1000):Cl C (fun _=>False) 101 [.agg (qY j)] g fun u g'=>u= .agg (qY j)∧g'=g:=by refine Cl.ip rfl (zuF rfl) fun Ψ hΨ=> ?_;simp[qY];refine zb.go0 (zsN (RdX.lst _ j.l) (by omega)) ?_;simp;exact Gh.pure (u':= .agg (qY j)) (.agg (.lts (zfX j _))) (hΨ _ _ ⟨rfl,rfl⟩)
def zdF(of:Int)(j:Jo):Bool:=j.seq==of
def zim(of:Int)(j:Jo):Bool:=j.kind==2&&j.of==of
theorem keyJP(x:Jo)(of:Int){g:XH}{a:Nat}(ha:g[a]? =some (.own 0 3 1 [xi of])):Cl C (fun _=>False) 326 [.agg (qY x),.s (.ptr a 0 0)] g fun u g'=>u=fb (zdF of x)∧g'=g:=by have la:=zf ha;refine Cl.ip rfl (zuF rfl) fun Ψ hΨ=> ?_;simp[qY,ha,la];exact Gh.pure (.s (.lt (by simp))) (hΨ _ _ ⟨by simp[zdF],rfl⟩)
theorem revJP(x:Jo)(of:Int){g:XH}{a:Nat}(ha:g[a]? =some (.own 0 3 1 [xi of])):Cl C (fun _=>False) 328 [.agg (qY x),.s (.ptr a 0 0)] g fun u g'=>u=fb (zim of x)∧g'=g:=by
 have la:=zf ha;refine Cl.ip rfl (zuF rfl) fun Ψ hΨ=> ?_;simp[qY,ha,la]
 repeat' first|(refine zc (fun hc=> ?_) (fun hc=> ?_)<;>try simp[qY,ha,la])
 all_goals(refine Gh.pure (.s (.lt (by simp))) (hΨ _ _ ⟨?_,rfl⟩);simp at *;simp[zim, *])
theorem Y2{α:Type}(q:α→Bool):∀(l:List α) (k:Nat),(ym q k l= -1∧l.find? q=none)∨∃i,ym q k l=((k+i:Nat):Int)∧∃h:i<l.length,l.find? q=some l[i]
 |[],k=> .inl ⟨rfl,rfl⟩
 |x::l,k=>by
  unfold ym;cases hk:q x with
  |true=>exact .inr ⟨0,by simp,by simp,by simp[hk]⟩
  |false=>
   rcases Y2 q l (k+1) with⟨h1,h2⟩|⟨i,h1,h2,h3⟩
   ·exact .inl ⟨by simpa using h1,by simp[hk,h2]⟩
   ·exact .inr ⟨i+1,by simp only[zva,if_false];rw[h1];congr 1;omega,by simpa using h2,by simp[hk,h3]⟩
def Qv:Jo:=⟨0,⟨#[]⟩,0,0,0,[]⟩
def JD(l:List Jo)(id:ByteArray)(p of:Int):Jo×Int:=match l.find? (zdF of) with
 |none=>(Qv,3)
 |some j=>if¬(j.id==id)=true∨j.p≠p∨j.kind=2 then(Qv,3) else if l.any (zim of) then(Qv,4) else(j,0)
theorem ziw{g:XH}{i k:Nat}{l:List Jo}(h:qw g i k l)(hl:StoL l)(id:ByteArray)(p of:Int):Cl C (fun _=>False) 292 [.s (.ptr i 0 0),fs id,fi p,fi of] g fun u g'=>u= .tup [.agg (qY (JD l id p of).1),fi (JD l id p of).2]∧g'=g:=by
 obtain⟨w,hi,hk⟩:=h;have li:=zf hi;have lk:=zf hk;have hll:=hl.len;refine Cl.ip rfl (zuF rfl) fun Ψ hΨ=> ?_;have bad:∀(e:Int) J,JD l id p of=(Qv,e)→Gh (fun _=>False) g Ψ (.tup [.agg [xi 0,xs ⟨#[]⟩,xi 0,xi 0,xi 0,.v .nils],fi e]) (g++J):=fun e J h=>Gh.pure (u':= .tup [.agg (qY Qv),fi e]) (.cons (.agg (.cons (.lt (by simp)) (.cons (.lt (by simp)) (.cons (.lt (by simp)) (.cons (.lt (by simp)) (.cons (.lt (by simp)) (.cons .nil .nil))))))) (.cons .i .nil)) (hΨ _ _ ⟨by rw[h],rfl⟩);simp[hi,hk,li,lk];refine zb.go0 (Yu (q:=zdF of) (f:=325) rfl ZI (by decide) (RdX.sl ZI hk).app (by omega) (.inr ⟨g.length+2,326,[],[.s (.ptr g.length 0 0)],rfl,by simp,fun x _=>keyJP x of (by simp)⟩)) ?_
 have h0:JD l id p of=match l.find? (zdF of) with
  |none=>(Qv,3)
  |some j=>if¬(j.id==id)=true∨j.p≠p∨j.kind=2 then(Qv,3) else if l.any (zim of) then(Qv,4) else(j,0):=rfl
 rcases Y2 (zdF of) l 0 with⟨e1,e2⟩|⟨n,e1,hn,e2⟩
 ·rw[e2] at h0;simp[e1];exact bad 3 _ h0
 rw[zvn] at e1;rw[e2] at h0;simp only at h0;obtain⟨a1,a2,a3⟩:=atX ZI hn;have c1:=a3 1 (by decide);have c2:=a3 2 (by decide);have c3:=a3 3 (by decide);generalize l[n]=j at *;simp[qY] at c1 c2 c3;simp[e1,hi,hk,li,lk,hn,c1,c2,c3,jJ,show¬(n:Int)<0 by omega];have K:(∀J,(¬(j.id==id)=true∨j.p≠p∨j.kind=2)→Gh (fun _=>False) g Ψ (.tup [.agg [xi 0,xs ⟨#[]⟩,xi 0,xi 0,xi 0,.v .nils],fi 3]) (g++J)):=fun J h=>bad 3 J (by rw[h0,zuO h]);refine zc (fun k1=> ?_) (fun k1=> ?_)
 rotate_left
 ·simp at k1;simp;exact K _ (.inl (by simpa[yj] using k1))
 simp at k1;simp[hi,hk,li,lk,hn,c1,c2,c3];refine zc (fun k2=> ?_) (fun k2=> ?_)
 ·simp at k2;simp;exact K _ (.inr (.inl k2))
 simp at k2;simp[hi,hk,li,lk,hn,c1,c2,c3];refine zc (fun k3=> ?_) (fun k3=> ?_)
 ·simp at k3;simp;exact K _ (.inr (.inr k3))
 simp at k3;rw[zuQ (by simp[k1,k2,k3,yj])] at h0;simp[hi,hk,li,lk];refine zb.go0 (Qx (q:=zim of) (f:=327) (fi':=325) rfl rfl ZI (by decide) (RdX.sl ZI hk).app (by omega) (.inr ⟨g.length+3,328,[],[.s (.ptr g.length 0 0)],rfl,by simp,fun x _=>revJP x of (by simp)⟩)) ?_;simp;refine zc (fun k4=> ?_) (fun k4=> ?_)
 ·rw[zuO (by simpa using k4)] at h0;simp;exact bad 4 _ h0
 ·rw[zuQ (by simp[k4])] at h0;simp[hi,hk,li,lk,hn,a1,a2,qY];exact Gh.pure (u':= .tup [.agg (qY j),fi 0]) (.cons (.agg (.lts (zfX j _))) (.cons .i .nil)) (hΨ _ _ ⟨by rw[h0],rfl⟩)
def zeb(a b:List Li):Bool:=Q4 (fun x y=>x.a==y.a&&x.n==y.n) a b
theorem zs5{g:XH}{u v:XV}{a b:List Li}(ra:RdX g 189 2 jy u a)(rb:RdX g 189 2 jy v b)(hl:a.length≤1000):Cl C (fun _=>False) 294 [.s u,.s v] g fun r g'=>r=fb (zeb a b)∧g'=g:=
 zs6 (o:=[(0,0),(1,0)]) rfl y9 (by decide) (fun x y=>by simp[jy,unV,jV,YV];generalize(x.a==y.a)=p;generalize(x.n==y.n)=q;cases p<;>cases q<;>rfl) ra rb (by omega)
def zgo(l:List Jo)(id:ByteArray)(p kind of:Int)(ls:List Li):Int:=
 if kind=2 then(if(JD l id p of).2≠0 then(JD l id p of).2 else if¬yh ls=true then 2 else if¬zeb ls (yf (JD l id p of).1.l)=true then 2 else 0)
 else if¬yh ls=true then 2 else 0
theorem zoz{l:List Jo}(hl:StoL l)(id:ByteArray)(p of:Int):(JD l id p of).1.l.length≤20:=by
 unfold JD;split
 ·simp[Qv]
 ·rename_i j hj;have:=hl.l j (zv7 hj);split
  ·simp[Qv]
  ·split
   ·simp[Qv]
   ·exact this
theorem ziu{g:XH}{i k:Nat}{l:List Jo}(h:qw g i k l)(hl:StoL l)(id:ByteArray)(p kind of:Int){v:XV}{ls:List Li}(hr:RdX g 189 2 jy v ls)(hls:ls.length≤1000):Cl C (fun _=>False) 227 [.s (.ptr i 0 0),fs id,fi p,fi kind,fi of,.s v] g fun u g'=>u=fi (zgo l id p kind of ls)∧g'=g:=by
 refine Cl.ip rfl (zuF rfl) fun Ψ hΨ=> ?_;have hrl:=zoz hl id p of
 have h0:zgo l id p kind of ls=if kind=2 then(if(JD l id p of).2≠0 then(JD l id p of).2 else if¬yh ls=true then 2 else if¬zeb ls (yf (JD l id p of).1.l)=true then 2 else 0)
  else if¬yh ls=true then 2 else 0:=rfl
 simp;refine zc (fun k1=> ?_) (fun k1=> ?_)
 ·simp at k1;rw[zuO k1] at h0;simp[k1];refine zb.go0 (ziw h hl id p of) ?_;generalize JD l id p of=rv at *;simp[qY];refine zc (fun k2=> ?_) (fun k2=> ?_)
  ·simp at k2;rw[zuO k2] at h0;simp;exact Gh.pure .i (hΨ _ _ ⟨by rw[h0],rfl⟩)
  simp at k2;rw[zuQ (by simpa using k2)] at h0;simp;refine zb.go0 (J2 (RdX.lst _ rv.1.l) (by omega)) ?_;simp;refine zb.go0 (zaV hr.app hls) ?_;cases k3:yh ls with
  |false=>
   rw[zuO (by simp[k3])] at h0;simp;exact Gh.pure .i (hΨ _ _ ⟨by rw[h0],rfl⟩)
  |true=>
   rw[zuQ (by simp[k3])] at h0;simp[k1];refine zb.go0 (zs5 hr.app (RdX.lst _ (yf rv.1.l)) hls) ?_;simp;refine zc (fun k4=> ?_) (fun k4=> ?_)
   ·rw[zuQ (by simp[k4])] at h0;simp;exact Gh.pure .i (hΨ _ _ ⟨by rw[h0],rfl⟩)
   ·rw[zuO (by simp[k4])] at h0;simp;exact Gh.pure .i (hΨ _ _ ⟨by rw[h0],rfl⟩)
 ·simp at k1;rw[zuQ k1] at h0;simp;refine zb.go0 (zaV hr hls) ?_;cases k3:yh ls with
  |false=>
   rw[zuO (by simp[k3])] at h0;simp;exact Gh.here (hΨ _ _ ⟨by rw[h0],rfl⟩)
  |true=>
   rw[zuQ (by simp[k3])] at h0;simp[show(kind==2)=false by simpa using k1];exact Gh.here (hΨ _ _ ⟨by rw[h0],rfl⟩)
def Zl(l:List Jo)(id:ByteArray)(ls:List Li):Bool:=ls.all fun x=>za (wr (zcU l id x.a 399+x.n))
def jf(l:List Jo)(id:ByteArray)(p kind of:Int)(ls:List Li):Int×Int×List Jo:=
 if id.size=0∨¬zm p=true∨(kind≠1∧kind≠2)∨(kind=1∧of≠0) then(0,1,l)
 else if zgo l id p kind of ls≠0 then(0,zgo l id p kind of ls,l)
 else if 200≤l.length then(0,5,l)
 else if¬Zl l id ls=true then(0,6,l)
 else((l.length:Int)+1,0,l++[⟨(l.length:Int)+1,id,p,kind,of,ls⟩])
def zjZ(g:XH)(i k w:Nat)(l:List Jo):XH:=(g.set k (.own w 184 6 (l.flatMap qY))).set i (.own 0 175 1 [.sl k w 0 l.length])
theorem qw.same{g:XH}{i k:Nat}{l:List Jo}(h:qw g i k l):∃w,g=zjZ g i k w l:=by obtain⟨w,h1,h2⟩:=h;exact⟨w,by unfold zjZ;rw[jc h2,jc h1]⟩
theorem zdH{l:List Jo}{id:ByteArray}{p kind of:Int}{ls:List Li}(h:zgo l id p kind of ls=0):yh ls=true:=by
 unfold zgo at h;cases hc:yh ls with
 |true=>rfl
 |false=>
  rw[hc] at h;split at h
  ·split at h
   ·rename_i k;exact absurd h k
   ·simp at h
  ·simp at h
theorem zac{ls:List Li}(h:yh ls=true):ls.length≤20:=by simp[yh] at h;exact h.1.1
theorem zrn{g:XH}{i k:Nat}{l:List Jo}(h:qw g i k l)(hne:i≠k)(hl:StoL l)(id:ByteArray)(p kind of:Int){v:XV}{ls:List Li}(hr:v=zjm ls)(hls:ls.length≤1000):Cl C (fun x=>x=i∨x=k) 152 [.s (.ptr i 0 0),fs id,fi p,fi kind,fi of,.s v] g fun u g'=>u= .tup [fi (jf l id p kind of ls).1,fi (jf l id p kind of ls).2.1]∧∃w,g'=zjZ g i k w (jf l id p kind of ls).2.2:=by
 obtain⟨w0,he⟩:=h.same;have hP:=h;subst hr;obtain⟨w,hi,hk⟩:=h;have li:=zf hi;have lk:=zf hk;have hll:=hl.len;have hlen:(l.flatMap qY).length=l.length*6:=zg ZI l;refine Cl.ip rfl (zuF rfl) fun Ψ hΨ=> ?_;have bad:∀(e:Int) J,jf l id p kind of ls=(0,e,l)→Gh (fun x=>x=i∨x=k) g Ψ (.tup [fi 0,fi e]) (g++J):=fun e J h=>Gh.pure (.t2 .i .i) (hΨ _ _ ⟨by rw[h],w0,by rw[h];exact he⟩);have bad0:∀(e:Int),jf l id p kind of ls=(0,e,l)→Gh (fun x=>x=i∨x=k) g Ψ (.tup [fi 0,fi e]) g:=fun e h=>by simpa using bad e [] h
 by_cases h1:id.size=0
 ·have h1':id.toList.isEmpty=true:=by rw[yM];exact zvZ h1
  simp[h1'];exact bad0 1 (by unfold jf;rw[zuO (.inl h1)])
 have h1':id.toList.isEmpty=false:=by rw[yM];exact zv2 h1
 simp[h1'];refine zb.pure (Zg ..) ?_;cases h2:zm p with
 |false=>
  simp;exact bad0 1 (by unfold jf;rw[zuO (.inr (.inl (by simp[h2])))])
 |true=>
 by_cases h3:kind≠1∧kind≠2
 ·simp[show(kind !=1)=true by simpa using h3.1,show(kind !=2)=true by simpa using h3.2];exact bad0 1 (by unfold jf;rw[zuO (.inr (.inr (.inl h3)))])
 by_cases h4:kind=1∧of≠0
 ·obtain⟨rfl,h4⟩:=h4;simp[show(of !=0)=true by simpa using h4];exact bad0 1 (by unfold jf;rw[zuO (.inr (.inr (.inr ⟨rfl,h4⟩)))])
 have hK:¬(id.size=0∨¬zm p=true∨(kind≠1∧kind≠2)∨(kind=1∧of≠0)):=by
  rintro(h|h|h|h)
  ·exact h1 h
  ·exact h h2
  ·exact h3 h
  ·exact h4 h
 have e0:jf l id p kind of ls=if zgo l id p kind of ls≠0 then(0,zgo l id p kind of ls,l)
  else if 200≤l.length then(0,5,l)
  else if¬Zl l id ls=true then(0,6,l)
  else((l.length:Int)+1,0,l++[⟨(l.length:Int)+1,id,p,kind,of,ls⟩]):=by unfold jf;rw[zuQ hK]
 have h3':(kind=1∧of=0)∨kind=2:=by omega
 clear hK h3 h4;rcases h3' with⟨rfl,rfl⟩|rfl
 ·simp;refine zb.go0 (ziu hP hl id p _ _ (RdX.lst _ ls) hls) ?_;simp;refine zc (fun k1=> ?_) (fun k1=> ?_)
  ·simp at k1;rw[zuO k1] at e0;simp;exact bad0 _ e0
  simp at k1;have hc20:=zac (zdH k1);rw[zuQ (by simpa using k1)] at e0;simp[hi,li];refine zc (fun k2=> ?_) (fun k2=> ?_)
  ·simp at k2;rw[zuO (by omega)] at e0;simp;exact bad0 _ e0
  simp at k2;rw[zuQ (by omega)] at e0;simp;refine Lp.genU (σ:=Unit) ls.length (fun q _=>[(59,fi q)]) (fun _ _=>g) (fun q _=>Zl l id (ls.take q)=true) () (by decide) rfl (by simp) rfl (by simp[Zl]) ?_ ?_
  ·rintro q hq _ hov hlt N hN;obtain⟨a1,a2,_⟩:=atX y9 hq;have e3:Zl l id (ls.take (q+1))=(Zl l id (ls.take q)&&za (wr (zcU l id ls[q].a 399+ls[q].n))):=zav hq;have hmem:=zvk hq;have hno:za (wr (zcU l id ls[q].a 399+ls[q].n))=false→Zl l id ls=false:=fun h=>by
    unfold Zl;rw[zxr];exact⟨_,hmem,by simp[h]⟩
   generalize ls[q]=x at *;simp[l152_0,hq,a1,a2,jy];refine zz 7 [16] (fun _=>False) (by decide) (by decide) ?_;simp only[zu3,zvs,zvd,zu8];simp;refine zb.go0 (zei hP.app hl id x.a 399) ?_;simp;refine zb.pure (yc ..) ?_;simp;refine zc (fun k3=> ?_) (fun k3=> ?_)
   ·simp[yN hq (by omega)];exact zam () hN (by rw[e3,hov,show za (wr (zcU l id x.a 399+x.n))=true from k3];rfl) (by simp) (by simpa using hlt)
   ·rw[zuO (by simp[hno k3])] at e0;simp;exact bad 6 _ e0
  ·rintro _ hov;rw[zve] at hov;rw[zuQ (by simp[hov])] at e0;simp[l152_0,hi,li,ze (n:=(l.length:Int)+1) (by omega) (by omega)];refine zz 13 [0,1,2,3,4,5,17] (fun _=>False) (by decide) (by decide) ?_;simp only[zu3,zvs,zvd,zu8];have hO:=fun g=>znP (g:=g) (j:=⟨(l.length:Int)+1,id,p,1,0,ls⟩) (by simp only;omega);simp[qY] at hO;simp[hi,li];refine zb.go0 (hO _) ?_;have g1:∀x,(g.set k x)[i]? =g[i]? :=fun x=>zH hne.symm;simp[hi,hk,li,lk,hlen,g1,show(l.length+1)*72≤140737488355328 by omega];refine zge (by simp[lvO]) (by simp[lvO,lk]) (by simp) (hΨ _ _ ⟨by rw[e0],w+1,?_⟩);rw[e0];simp[zjZ,qY]
 ·simp;refine zb.go0 (ziu hP hl id p _ _ (RdX.lst _ ls) hls) ?_;simp;refine zc (fun k1=> ?_) (fun k1=> ?_)
  ·simp at k1;rw[zuO k1] at e0;simp;exact bad0 _ e0
  simp at k1;have hc20:=zac (zdH k1);rw[zuQ (by simpa using k1)] at e0;simp[hi,li];refine zc (fun k2=> ?_) (fun k2=> ?_)
  ·simp at k2;rw[zuO (by omega)] at e0;simp;exact bad0 _ e0
  simp at k2;rw[zuQ (by omega)] at e0;simp;refine Lp.genU (σ:=Unit) ls.length (fun q _=>[(59,fi q)]) (fun _ _=>g) (fun q _=>Zl l id (ls.take q)=true) () (by decide) rfl (by simp) rfl (by simp[Zl]) ?_ ?_
  ·rintro q hq _ hov hlt N hN;obtain⟨a1,a2,_⟩:=atX y9 hq;have e3:Zl l id (ls.take (q+1))=(Zl l id (ls.take q)&&za (wr (zcU l id ls[q].a 399+ls[q].n))):=zav hq;have hmem:=zvk hq;have hno:za (wr (zcU l id ls[q].a 399+ls[q].n))=false→Zl l id ls=false:=fun h=>by
    unfold Zl;rw[zxr];exact⟨_,hmem,by simp[h]⟩
   generalize ls[q]=x at *;simp[l152_0,hq,a1,a2,jy];refine zz 7 [16] (fun _=>False) (by decide) (by decide) ?_;simp only[zu3,zvs,zvd,zu8];simp;refine zb.go0 (zei hP.app hl id x.a 399) ?_;simp;refine zb.pure (yc ..) ?_;simp;refine zc (fun k3=> ?_) (fun k3=> ?_)
   ·simp[yN hq (by omega)];exact zam () hN (by rw[e3,hov,show za (wr (zcU l id x.a 399+x.n))=true from k3];rfl) (by simp) (by simpa using hlt)
   ·rw[zuO (by simp[hno k3])] at e0;simp;exact bad 6 _ e0
  ·rintro _ hov;rw[zve] at hov;rw[zuQ (by simp[hov])] at e0;simp[l152_0,hi,li,ze (n:=(l.length:Int)+1) (by omega) (by omega)];refine zz 13 [0,1,2,3,4,5,17] (fun _=>False) (by decide) (by decide) ?_;simp only[zu3,zvs,zvd,zu8];have hO:=fun g=>znP (g:=g) (j:=⟨(l.length:Int)+1,id,p,2,of,ls⟩) (by simp only;omega);simp[qY] at hO;simp[hi,li];refine zb.go0 (hO _) ?_;have g1:∀x,(g.set k x)[i]? =g[i]? :=fun x=>zH hne.symm;simp[hi,hk,li,lk,hlen,g1,show(l.length+1)*72≤140737488355328 by omega];refine zge (by simp[lvO]) (by simp[lvO,lk]) (by simp) (hΨ _ _ ⟨by rw[e0],w+1,?_⟩);rw[e0];simp[zjZ,qY]
theorem zkr{W:Nat→Prop}{g J:XH}{k t z T Z:Nat}{cs cs':List XV}{Ψ:XF→XH→Prop}(hJ:J[k]? =some (.own 0 t z cs))(hc:FzVs g.length J [some k,none] [.own 0 t z cs',.own 0 T Z []] cs cs')(h:Ψ (.s (.ptr g.length 0 0)) (g++[.own 0 t z cs',.own 0 T Z []])):Gh W g Ψ (.s (.ptr (g.length+k) 0 0)) (g++J):=by
 refine Gh.keep [some k,none] [.own 0 t z cs',.own 0 T Z []] ⟨rfl,rfl,fun i o e=> .inl ⟨e,.inl e⟩,rfl,?_,?_⟩ (.s (.kptr (j:=0) (k:=k) rfl)) (by rw[zwa];exact h)
 ·intro j j' q e e'
  match j,j' with
  |0,0=>rfl
  |0,1=>simp at e'
  |0,n+2=>simp at e'
  |1,_=>simp at e
  |n+2,_=>simp at e
 ·intro j o e
  match j with
  |0=>
   simp only[zvt,zuE] at e;exact .inr ⟨k,0,t,z,cs,cs',rfl,hJ,e.symm,hc⟩
  |1=>
   simp only[zvL,zvt,zuE] at e;exact .inl ⟨rfl,T,Z,e.symm⟩
  |n+2=>simp at e
theorem zkt{W S:Nat→Prop}{g G:XH}{Ψ:XF→XH→Prop}{u:XF}(h:Upd S g G)(hu:lvF g.length u)(hp:Ψ u G):Gh W g Ψ u G:=by
 have:=qZ (W:=W) (J:=[]) h hu hp
 rwa [zvl] at this
theorem zud(g:XH):Cl C (fun _=>False) 38 [] g fun u g'=>u= .s (.ptr g.length 0 0)∧g'=g++[.own 0 145 1 [.sl (g.length+1) 0 0 0],.own 0 140 4 []]:=by refine Cl.ip rfl (zuF rfl) fun Ψ hΨ=> ?_;simp;exact zkr (k:=0) (T:=140) (Z:=4) rfl (.cons (.gh (j:=1) rfl rfl) .nil) (hΨ _ _ ⟨rfl,rfl⟩)
theorem zt9(g:XH):Cl C (fun _=>False) 39 [] g fun u g'=>u= .s (.ptr g.length 0 0)∧g'=g++[.own 0 175 1 [.sl (g.length+1) 0 0 0],.own 0 184 6 []]:=by refine Cl.ip rfl (zuF rfl) fun Ψ hΨ=> ?_;simp;exact zkr (k:=0) (T:=184) (Z:=6) rfl (.cons (.gh (j:=1) rfl rfl) .nil) (hΨ _ _ ⟨rfl,rfl⟩)
theorem zqv{W:Nat→Prop}{g J:XH}{k w t z:Nat}{cs cs':List XV}{Ψ:XF→XH→Prop}(hJ:J[k]? =some (.own w t z cs))(hc:FzVs g.length J [some k] [.own w t z cs'] cs cs')(h:Ψ (.s (.ptr g.length w 0)) (g++[.own w t z cs'])):Gh W g Ψ (.s (.ptr (g.length+k) w 0)) (g++J):=by
 refine Gh.keep [some k] [.own w t z cs'] ⟨rfl,rfl,fun i o e=> .inl ⟨e,.inl e⟩,rfl,?_,?_⟩ (.s (.kptr (j:=0) (k:=k) rfl)) (by rw[zwa];exact h)
 ·intro j j' k e e';have h1:=(zuJ.1 e).1;have h2:=(zuJ.1 e').1;simp at h1 h2;omega
 ·intro j o e;have h1:=(zuJ.1 e).1;obtain rfl:j=0:=by simpa using h1
  simp only[zvt,zuE] at e;exact .inr ⟨k,w,t,z,cs,cs',rfl,hJ,e.symm,hc⟩
theorem zts(g:XH):Cl C (fun _=>False) 132 [] g fun u g'=>u= .s (lpV [])∧g'=g:=by refine Cl.ip rfl (zuF rfl) fun Ψ hΨ=> ?_;simp;exact Gh.pure (u':= .s (lpV [])) (.s (.ptr (t:=295) (z:=1) (zuL _) (fun j=>by simp) (by simp) (by simp) (.cons .nil .nil))) (hΨ _ _ ⟨rfl,rfl⟩)
abbrev qE(b:Bool):List XV:=[xb b]
theorem Zi(b:Bool):(qE b).length=1:=rfl
@[simp] theorem encO_lvs(m:Nat)(l:List Bool):zw m (l.flatMap qE):=zZ (fun a=>by simp[qE]) l
def JF(g:XH)(i k:Nat)(first:Int)(t:List Bool):Prop:=∃w junk,(∀m,zw m junk)∧g[i]? =some (.own 0 257 2 [xi first,.sl k w 0 t.length])∧g[k]? =some (.own w 4 1 (t.flatMap qE++junk))
structure StaL(first:Int)(t:List Bool):Prop where
 p:zm first=true
 lo:1≤t.length
 hi:t.length≤500
theorem JF.app{g J:XH}{i k:Nat}{f:Int}{l:List Bool}(h:JF g i k f l):JF (g++J) i k f l:=by obtain⟨w,junk,h0,h1,h2⟩:=h;exact⟨w,junk,h0,by rw[zq (zf h1)];exact h1,by rw[zq (zf h2)];exact h2⟩
def yE(f:Int)(t:List Bool):Int:=f+(t.length:Int)-1
theorem zt8(g:XH)(f:Int):Cl C (fun _=>False) 131 [fi f] g fun u g'=>if zm f then u= .tup [.s (.ptr (g.length+1) 0 0),fi 0]∧g'=g++[.own 0 4 1 [xb false],.own 0 257 2 [xi f,.sl g.length 0 0 1]] else u= .tup [.s (.v .nilp),fi 1]∧g'=g:=by
 refine Cl.ip rfl (zuF rfl) fun Ψ hΨ=> ?_;simp;refine zb.pure (Zg ..) ?_;cases hp:zm f with
 |true=>
  simp[rep];exact Gh.here (hΨ _ _ (by rw[hp];exact⟨rfl,rfl⟩))
 |false=>
  simp;exact Gh.here (hΨ _ _ (by rw[hp];exact⟨rfl,rfl⟩))
theorem zrm{g:XH}{i k:Nat}{f:Int}{t:List Bool}(h:JF g i k f t)(hl:StaL f t):Cl C (fun _=>False) 172 [.s (.ptr i 0 0)] g fun u g'=>u=fi (yE f t)∧g'=g:=by obtain⟨w,junk,h0,hi,hk⟩:=h;have li:=zf hi;have h1:=hl.p;have h2:=hl.hi;have h3:=hl.lo;simp[zm] at h1;refine Cl.ip rfl (zuF rfl) fun Ψ hΨ=> ?_;simp[hi,li,ze (n:=f+(t.length:Int)) (by omega) (by omega),ze (n:=f+(t.length:Int)-1) (by omega) (by omega)];exact Gh.here (hΨ _ _ ⟨rfl,rfl⟩)
theorem zcL{g:XH}{i k:Nat}{f:Int}{t:List Bool}(h:JF g i k f t)(hl:StaL f t):Cl C (fun _=>False) 98 [.s (.ptr i 0 0)] g fun u g'=>u= .tup [fi (if zm (yE f t) then yE f t else 0),fb (zm (yE f t))]∧g'=g:=by
 refine Cl.ip rfl (zuF rfl) fun Ψ hΨ=> ?_;simp;refine zb.go0 (zrm h hl) ?_;simp;refine zb.pure (Zg ..) ?_;cases hp:zm (yE f t) with
 |true=>
  simp;exact Gh.here (hΨ _ _ ⟨by rw[hp];rfl,rfl⟩)
 |false=>
  simp;exact Gh.here (hΨ _ _ ⟨by rw[hp];rfl,rfl⟩)
def zgX(f:Int)(t:List Bool):Int×List Bool:=if zm (yE f t) then(0,t.set (t.length-1) true) else(8,t)
theorem zoO{g:XH}{i k:Nat}{f:Int}{t:List Bool}(h:JF g i k f t)(hne:i≠k)(hl:StaL f t):Cl C (fun x=>x=k) 99 [.s (.ptr i 0 0)] g fun u g'=>u=fi (zgX f t).1∧JF g' i k f (zgX f t).2∧Upd (fun x=>x=k) g g':=by
 have hP:=h;obtain⟨w,junk,h0,hi,hk⟩:=h;have li:=zf hi;have lk:=zf hk;have h2:=hl.hi;have h3:=hl.lo;refine Cl.ip rfl (zuF rfl) fun Ψ hΨ=> ?_;simp;refine zb.go0 (zcL hP hl) ?_;unfold zgX at hΨ;cases hp:zm (yE f t) with
 |false=>
  rw[hp] at hΨ;simp;exact Gh.here (hΨ _ _ ⟨rfl,hP,Upd.refl⟩)
 |true=>
  rw[hp] at hΨ;have hn:t.length-1<t.length:=by omega
  have hs:=jW Zi (l:=t) (k:=t.length-1) hn (c:=0) (by decide) (v:=xb true) (x:=true) rfl junk;simp only[zxS,zwa] at hs;have hlen:(t.flatMap qE).length=t.length:=by rw[zg Zi];omega
  have e1:((t.length:Int)-1).toNat=t.length-1:=by omega
  have ht0:¬t=[]:=fun e=>by rw[e] at h3;simp at h3
  simp[hi,li,hk,lk,ze (n:=(t.length:Int)-1) (by omega) (by omega),show(1:Int)≤t.length by omega,show(0:Int)≤(t.length:Int)-1 by omega,show(t.length:Int)-1<t.length by omega,e1,hs,hlen,ht0,show t.length-1+1≤t.length+junk.length by omega];have u:Upd (fun x=>x=k) g (g.set k (.own w 4 1 ((t.set (t.length-1) true).flatMap qE++junk))):=by refine Upd.refl.set (S:=fun x=>x=k) rfl ?_;simp[lvO,h0]
  refine zkt u (by simp) (hΨ _ _ ⟨rfl,⟨w,junk,h0,?_,?_⟩,u⟩)
  ·rw[zH hne.symm];simp[hi]
  ·rw[yo lk];rfl
def zfL(f:Int)(t:List Bool):Int×List Bool:=if zm (yE f t) then(0,t++[false]) else(8,t)
theorem zoN{g:XH}{i k:Nat}{f:Int}{t:List Bool}(h:JF g i k f t)(hne:i≠k)(hl:StaL f t):Cl C (fun x=>x=i∨x=k) 154 [.s (.ptr i 0 0)] g fun u g'=>u=fi (zfL f t).1∧JF g' i k f (zfL f t).2∧Upd (fun x=>x=i∨x=k) g g':=by
 have hP:=h;obtain⟨w,junk,h0,hi,hk⟩:=h;have li:=zf hi;have lk:=zf hk;have h2:=hl.hi;have h3:=hl.lo;refine Cl.ip rfl (zuF rfl) fun Ψ hΨ=> ?_;simp;refine zb.go0 (zcL hP hl) ?_;unfold zfL at hΨ;cases hp:zm (yE f t) with
 |false=>
  rw[hp] at hΨ;simp;exact Gh.here (hΨ _ _ ⟨rfl,hP,Upd.refl⟩)
 |true=>
  rw[hp] at hΨ;obtain⟨cs,hcs⟩:∃cs,cs=t.flatMap qE++junk:=⟨_,rfl⟩
  have hlen:cs.length=t.length+junk.length:=by rw[hcs,zuM,zg Zi];omega
  have hcut:(if t.length=cs.length then cs else cs.take t.length)=t.flatMap qE:=by
   have e:cs.take t.length=t.flatMap qE:=by rw[hcs,show t.length=(t.flatMap qE).length by rw[zg Zi];omega,zv8];rfl
   split
   ·rename_i h;rw[←e,zvA (by omega)]
   ·exact e
  have g1:∀x,(g.set k x)[i]? =g[i]? :=fun x=>zH hne.symm;rw[←hcs] at hk;simp[rep,hi,li,hk,lk,g1,hcut,show t.length≤cs.length by omega,show t.length+1≤140737488355328 by omega];have u:Upd (fun x=>x=i∨x=k) g ((g.set k (.own (w+1) 4 1 (t.flatMap qE++[xb false]))).set i (.own 0 257 2 [xi f,.sl k (w+1) 0 (t.length+1)])):=(Upd.refl.set (.inr rfl) (by simp[lvO])).set (.inl rfl) (by simp[lvO,lk]);refine qZ u (by simp) (hΨ _ _ ⟨rfl,⟨w+1,[],fun m=>by simp[zw],?_,?_⟩,u⟩)
  ·rw[yo (by simpa using li)];simp
  ·rw[zH hne,yo lk];simp
def Yn(t:List Bool):Int×List Bool:=if t.length=1 then(3,t) else if t[t.length-1]? =some true then(8,t) else(0,t.take (t.length-1))
theorem zmr{g:XH}{i k:Nat}{f:Int}{t:List Bool}(h:JF g i k f t)(hne:i≠k)(hl:StaL f t):Cl C (fun x=>x=i) 155 [.s (.ptr i 0 0)] g fun u g'=>u=fi (Yn t).1∧JF g' i k f (Yn t).2∧Upd (fun x=>x=i) g g':=by
 have hP:=h;obtain⟨w,junk,h0,hi,hk⟩:=h;have li:=zf hi;have lk:=zf hk;have h2:=hl.hi;have h3:=hl.lo;refine Cl.ip rfl (zuF rfl) fun Ψ hΨ=> ?_;unfold Yn at hΨ;simp[hi,li,ze (n:=(t.length:Int)-1) (by omega) (by omega)];refine zc (fun k1=> ?_) (fun k1=> ?_)
 ·simp at k1;rw[zuO (by omega)] at hΨ;simp;exact Gh.here (hΨ _ _ ⟨rfl,hP,Upd.refl⟩)
 simp at k1;rw[zuQ (by omega)] at hΨ;have hn:t.length-1<t.length:=by omega
 have e1:((t.length:Int)-1).toNat=t.length-1:=by omega
 have ha:=(atX Zi hn).2.2 0 (by decide);have hfl:(t.flatMap qE).length=t.length:=by rw[zg Zi];omega
 have hb:(t.flatMap qE++junk)[t.length-1]? =some (xb t[t.length-1]):=by rw[zuK (by omega)];simpa[qE] using ha
 have hg:t[t.length-1]? =some t[t.length-1]:=zuV hn;rw[hg] at hΨ;have hbl:t.length-1≤(t.flatMap qE++junk).length:=by simp[hfl];omega
 have hcn:¬t.flatMap qE++junk=[]:=fun e=>by rw[e] at hb;simp at hb
 have hcsv:∀m,zw m (t.flatMap qE++junk):=fun m=>by simp[h0]
 have hpre:t.flatMap qE++junk=(t.take (t.length-1)).flatMap qE++(xb t[t.length-1]::junk):=by
  have e:=zu6 hn;rw[zvA (by omega)] at e;have e2:t.flatMap qE=(t.take (t.length-1)).flatMap qE++[xb t[t.length-1]]:=by
   conv=>lhs;rw[e]
   rw[zvw];rfl
  rw[e2,zvc];rfl
 generalize hcs:t.flatMap qE++junk=cs at *;simp[hi,li,hk,lk,e1,hb,show(1:Int)≤t.length by omega,show(0:Int)≤(t.length:Int)-1 by omega,show(t.length:Int)-1<t.length by omega];generalize t[t.length-1]=z at *;cases z with
 |true=>
  simp;exact Gh.here (hΨ _ _ ⟨rfl,hP,Upd.refl⟩)
 |false=>
  simp[hi,li,hk,lk,e1,hcn,hbl,show(1:Int)≤t.length by omega,show(0:Int)≤(t.length:Int)-1 by omega];have u:Upd (fun x=>x=i) g (g.set i (.own 0 257 2 [xi f,.sl k w 0 (t.length-1)])):=by refine Upd.refl.set (S:=fun x=>x=i) rfl ?_;simp[lvO,lk]
  refine zkt u (by simp) (hΨ _ _ ⟨by simp,⟨w,xb false::junk,fun m=>by simp[zw,h0],?_,?_⟩,u⟩)
  ·rw[yo li];simp
  ·rw[zH hne];simp[hk,hpre]
theorem zsO{g:XH}{v:XV}{l:List Bool}(r:RdX g 4 1 qE v l)(hl:l.length≤1000000):Cl C (fun _=>False) 169 [.s v] g (Zo g 4 1 l.length (l.flatMap qE)):=
 JQ (z:=1) rfl rfl rfl Zi (by decide) r (fun a=>by simp[qE]) (by omega)
theorem zoM{g:XH}{i k:Nat}{f:Int}{t:List Bool}(h:JF g i k f t)(hl:StaL f t):Cl C (fun _=>False) 95 [.s (.ptr i 0 0)] g fun u g'=>u= .s (.ptr (g.length+1) 0 0)∧∃w,g'=g++[.own w 4 1 (t.flatMap qE),.own 0 257 2 [xi f,.sl g.length w 0 t.length]]:=by obtain⟨w,junk,h0,hi,hk⟩:=h;have li:=zf hi;have lk:=zf hk;have h2:=hl.hi;refine Cl.ip rfl (zuF rfl) fun Ψ hΨ=> ?_;simp;refine zz 9 [0] (fun _=>False) (by decide) (by decide) ?_;simp only[zu3,zvs,zvd,zu8];simp[hi,li];refine zb.go (zsO (RdX.junk Zi hk) (by omega)) (fun _ _ h=>h.elim) ?_;rintro u g' ⟨w1,rfl,rfl⟩;simp;exact Gh.here (hΨ _ _ ⟨rfl,w1,rfl⟩)
def qe(x:Pa):List XV:=[xs x.s,xs x.b,xi x.n]
theorem yk(x:Pa):(qe x).length=3:=rfl
@[simp] theorem Qz(x:Pa)(m:Nat):zw m (qe x):=by simp[qe]
@[simp] theorem znr(m:Nat)(l:List Pa):zw m (l.flatMap qe):=zZ (fun a=>Qz a m) l
abbrev zgr(l:List Pa):XV:= .lst 171 3 l.length (l.flatMap qe)
def zar(g:XH)(i:Nat)(l:List Pa):Prop:=g[i]? =some (.own 0 177 1 [zgr l])
theorem zar.app{g J:XH}{i:Nat}{l:List Pa}(h:zar g i l):zar (g++J) i l:=by unfold zar at h⊢;rw[zq (zf h)];exact h
theorem zsT(g:XH):Cl C (fun _=>False) 40 [] g fun u g'=>u= .s (.ptr g.length 0 0)∧g'=g++[.own 0 177 1 [zgr []]]:=by refine Cl.ip rfl (zuF rfl) fun Ψ hΨ=> ?_;simp;exact zqv (k:=0) rfl (.cons .nil .nil) (hΨ _ _ ⟨rfl,rfl⟩)
theorem zfR{g:XH}{i:Nat}{l:List Pa}(h:zar g i l)(hl:l.length≤1000):Cl C (fun _=>False) 91 [.s (.ptr i 0 0)] g (Zo g 171 3 l.length (l.flatMap qe)):=by have h1:g[i]? =_:=h;have li:=zf h1;refine Cl.ip rfl (zuF rfl) fun Ψ hΨ=> ?_;simp[h1,li];refine zb.go (JQ (enc:=qe) (z:=3) (l:=l) rfl rfl rfl yk (by decide) (RdX.lst g l) (fun a=>Qz a _) (by omega)) (fun _ _ h=>h.elim) ?_;rintro u g' ⟨w,rfl,rfl⟩;simp;exact Gh.here (hΨ _ _ ⟨w,rfl,rfl⟩)
theorem zdG:∀(x y:List UInt8),Op.bytesLess x y=true∨Op.bytesLess y x=true∨x=y
 |[],[]=> .inr (.inr rfl)
 |[],_::_=> .inl (by simp[Op.bytesLess])
 |_::_,[]=> .inr (.inl (by simp[Op.bytesLess]))
 |a::x,b::y=>by
  simp only[Op.bytesLess];by_cases h1:a<b
  ·exact .inl (by simp[h1])
  by_cases h2:b<a
  ·exact .inr (.inl (by simp[h2]))
  obtain rfl:a=b:=by rw[UInt8.lt_iff_toNat_lt] at h1 h2;exact UInt8.toNat_inj.1 (by omega)
  rcases zdG x y with h|h|h
  ·exact .inl (by simp[h])
  ·exact .inr (.inl (by simp[h]))
  ·exact .inr (.inr (by rw[h]))
def cP(b:Pa):List SV:=[.str b.s,.str b.b,.int .i64 b.n]
theorem zkg(l:List Pa):(l.flatMap cP).map XV.v=l.flatMap qe:=by rw[zxi];rfl
theorem ltK_P(a b:Pa):ltK [0,1] (cP a) (cP b)=ltP a b:=by simp[ltK,cP,ltP,ltS,jJ,yj]
theorem toList_inj{a b:ByteArray}(h:a.toList=b.toList):a=b:=by have:=jJ a b;rw[h] at this;simp at this;exact this
theorem zeZ(a b:ByteArray):ltS a b=true∨ltS b a=true∨a=b:=by
 rcases zdG a.toList b.toList with h|h|h
 ·exact .inl h
 ·exact .inr (.inl h)
 ·exact .inr (.inr (toList_inj h))
def unP(a b:Pa):Prop:=¬(a.s=b.s∧a.b=b.b)
theorem zjo{a b:Pa}(h:unP a b):(ltP a b||ltP b a)=true:=by
 unfold unP at h;simp only[ltP,zvJ,zuP];rcases zeZ a.s b.s with h1|h1|h1
 ·exact .inl (.inl h1)
 ·exact .inr (.inl h1)
 ·have h2:¬a.b=b.b:=fun e=>h ⟨h1,e⟩;rcases zeZ a.b b.b with h3|h3|h3
  ·exact .inl (.inr ⟨by simp[h1,yj],h3⟩)
  ·exact .inr (.inr ⟨by simp[h1,yj],h3⟩)
  ·exact absurd h3 h2
theorem zaf:∀{l:List Pa},l.Pairwise unP→jH ltP l=true
 |[],_=>rfl
 |x::l,h=>by obtain⟨h1,h2⟩:=zu7.1 h;simp only[jH,zuP,zu4];exact⟨fun y hy=>zjo (h1 y hy),zaf h2⟩
def jQ(c:List Pa)(s b:ByteArray)(v:Int):List Pa:=let m:=c.filter fun x=> !Zk s b x
 if v=0 then m else m++[⟨s,b,v⟩]
def j9(c:List Pa)(s b:ByteArray)(n:Int):Int×List Pa:=
 if s.size=0∨b.size=0∨s=b∨¬za n=true then(1,c)
 else
  let v:=wr (Yk c s b+n)
  if v<0∨¬za v=true then(6,c)
  else if 8<(jQ c s b v).length then(5,c) else(0,zt ltP (jQ c s b v))
theorem za9{c:List Pa}(h:c.Pairwise unP)(s b:ByteArray)(v:Int):(jQ c s b v).Pairwise unP:=by
 have h1:(c.filter fun x=> !Zk s b x).Pairwise unP:=h.sublist zwi;unfold jQ;simp only;split
 ·exact h1
 ·refine zxz.2 ⟨h1,by simp,fun a ha x hx=> ?_⟩;rw[zvm] at hx;subst hx;have:=(zvx.1 ha).2;rintro⟨e1,e2⟩;simp[Zk,e1,e2,yj] at this
theorem znR(x:Pa)(s b:ByteArray){g:XH}{i j:Nat}(hi:g[i]? =some (.own 0 9 1 [xs s]))(hj:g[j]? =some (.own 0 9 1 [xs b])):Cl C (fun _=>False) 134 [.agg (qe x),.s (.ptr i 0 0),.s (.ptr j 0 0)] g fun u g'=>u=fb (Zk s b x)∧g'=g:=by
 have la:=zf hi;have lb:=zf hj;refine Cl.ip rfl (zuF rfl) fun Ψ hΨ=> ?_;simp[qe,hi,hj,la,lb,jJ]
 repeat' first|(refine zc (fun hc=> ?_) (fun hc=> ?_)<;>try simp[qe,hi,hj,la,lb,jJ])
 all_goals(refine Gh.pure (.s (.lt (by simp))) (hΨ _ _ ⟨?_,rfl⟩);simp at *;simp[Zk,yj, *])
theorem sortP{g:XH}{k w:Nat}{rows:List Pa}{junk:List XV}(hk:g[k]? =some (.own w 171 3 (rows.flatMap qe++junk)))(hd:rows.Pairwise unP)(hlm:rows.length<4611686018427387904):Cl C (fun x=>x=k) 137 [.s (.sl k w 0 rows.length),.s (.v (.fn 138))] g fun u g'=>u= .tup []∧g'=g.set k (.own w 171 3 ((zt ltP rows).flatMap qe++junk)):=by refine(zbf (o:=0) (enc:=cP) (lta:=ltP) rfl (fun _=>rfl) (by decide) (fun a v hv=>by simp[cP] at hv;rcases hv with rfl|rfl|rfl<;>rfl) (fun _=>rfl) ltK_P (l:=rows) (cs:=rows.flatMap qe++junk) (w:=w) (k:=k) hk (by rw[zuM,zg yk,zvn];exact zwY _ _) (by rw[zvP,zu8,←zg yk,zkg,zv8];rfl) (zaf hd) hlm).mono ?_;rintro u g' ⟨rfl,rfl⟩;refine⟨rfl,?_⟩;rw[zkg,zvP];have:=ZY ((zt ltP rows).flatMap qe) (rows.flatMap qe) junk [] (by rw[zg yk,zg yk,zJ]);simp only[zwj,zv1] at this;rw[this]
theorem zsS{g:XH}{i:Nat}{l:List Pa}(h:zar g i l)(hl:l.length≤100)(hd:l.Pairwise unP)(s b:ByteArray)(n:Int):Cl C (fun x=>x=i) 67 [.s (.ptr i 0 0),fs s,fs b,fi n] g fun u g'=>u=fi (j9 l s b n).1∧g'=g.set i (.own 0 177 1 [zgr (j9 l s b n).2]):=by
 have hP:=h;have hi:g[i]? =_:=h;have li:=zf hi;have hs:g.set i (.own 0 177 1 [zgr l])=g:=jc hi;refine Cl.ip rfl (zuF rfl) fun Ψ hΨ=> ?_;have bad:∀(e:Int) J,j9 l s b n=(e,l)→Gh (fun x=>x=i) g Ψ (fi e) (g++J):=fun e J h=>Gh.pure .i (hΨ _ _ ⟨by rw[h],by rw[h];exact hs.symm⟩)
 have e0:j9 l s b n=if s.size=0∨b.size=0∨s=b∨¬za n=true then(1,l)
  else
   let v:=wr (Yk l s b+n)
   if v<0∨¬za v=true then(6,l)
   else if 8<(jQ l s b v).length then(5,l) else(0,zt ltP (jQ l s b v)):=rfl
 by_cases c1:s.size=0
 ·simp[show s.toList.isEmpty=true by rw[yM];exact zvZ c1];exact bad 1 _ (by rw[e0,zuO (.inl c1)])
 by_cases c2:b.size=0
 ·simp[show s.toList.isEmpty=false by rw[yM];exact zv2 c1,show b.toList.isEmpty=true by rw[yM];exact zvZ c2];exact bad 1 _ (by rw[e0,zuO (.inr (.inl c2))])
 simp[show s.toList.isEmpty=false by rw[yM];exact zv2 c1,show b.toList.isEmpty=false by rw[yM];exact zv2 c2,jJ];refine zc (fun c3=> ?_) (fun c3=> ?_)
 ·simp at c3;simp;exact bad 1 _ (by rw[e0,zuO (.inr (.inr (.inl c3)))])
 simp at c3;simp;refine zb.pure (yc ..) ?_;simp;refine zc (fun c4=> ?_) (fun c4=> ?_)
 rotate_left
 ·simp;exact bad 1 _ (by rw[e0,zuO (.inr (.inr (.inr (by simp[c4]))))])
 rw[zuQ (by simp[c1,c2,c3,c4])] at e0;simp[hi,li];refine zb.go0 (Yu (q:=Zk s b) (f:=135) rfl yk (by decide) (RdX.lst _ l) (by omega) (.inr ⟨g.length+2,134,[],[.s (.ptr g.length 0 0),.s (.ptr (g.length+1) 0 0)],rfl,by simp,fun x _=>znR x s b (by simp) (by simp)⟩)) ?_;rcases Y2 (Zk s b) l 0 with⟨f1,f2⟩|⟨q,f1,hq,f2⟩
 ·have hpr:Yk l s b=0:=by unfold Yk;rw[f2]
  simp[f1];have e1:j9 l s b n=if wr n<0∨¬za (wr n)=true then(6,l) else if 8<(jQ l s b (wr n)).length then(5,l) else(0,zt ltP (jQ l s b (wr n))):=by rw[e0];simp only[hpr,zwz]
  have hun:=za9 hd s b (wr n);have hrl:(l.filter fun x=> !Zk s b x).length≤100:=zvz (zv6 _ _) hl
  try simp
  refine zc (fun k1=> ?_) (fun k1=> ?_)
  ·simp at k1;simp;exact bad 6 _ (by rw[e1,zuO (.inl k1)])
  simp at k1;simp;refine zb.pure (yc ..) ?_;simp;refine zc (fun k2=> ?_) (fun k2=> ?_)
  rotate_left
  ·simp;exact bad 6 _ (by rw[e1,zuO (.inr (by simp[k2]))])
  rw[zuQ (by simp[k2];omega)] at e1;simp;refine zb.go (zfR hP.app (by omega)) (fun _ _ h=>h.elim) ?_;rintro u g' ⟨w1,rfl,rfl⟩;simp;refine zb.go (zcz (fi':=135) (q:=Zk s b) rfl rfl (by decide) rfl rfl yk (k:=g.length+3) (w:=w1) (l:=l) (junk:=[]) (by simp) (by omega) (fun a m=>Qz a m) (fun m=>by simp[zw]) (fun cells J=> .inr ⟨g.length+2,134,[],[.s (.ptr g.length 0 0),.s (.ptr (g.length+1) 0 0)],rfl,by simp,fun x _=>znR x s b (by simp) (by simp)⟩)) (fun x hx e=> .inl (by omega)) ?_;rintro u g' ⟨junk,hj,rfl,rfl⟩;simp;by_cases hz:wr n=0
  ·skip
   rw[show jQ l s b (wr n)=l.filter fun x=> !Zk s b x by unfold jQ;simp[hz]] at e1 hun;generalize(l.filter fun x=> !Zk s b x)=M at *;have hml:=zg yk M;simp[hz];refine zc (fun k3=> ?_) (fun k3=> ?_)
   ·simp at k3;simp;exact bad 5 _ (by rw[e1,zuO (by omega)])
   simp at k3;rw[zuQ (by omega)] at e1;have hil:=zJ ltP (M);have hS:=fun G (hk:G[g.length+3]? =_)=>sortP (g:=G) (k:=g.length+3) (w:=w1) (rows:=M) (junk:=junk) hk hun (by first|omega|(simp;omega))
   try simp only[zuM,zuS,zvl] at hS hil
   try simp
   refine zb.go (hS _ (by simp[qe])) (fun x hx e=> .inl (by omega)) ?_;rintro u g' ⟨rfl,rfl⟩;simp[hi,li];rw[←hil];refine Gh.fz (g2:=g.set i (.own 0 177 1 [zgr (zt ltP (M))])) (FzH.put (W:=fun x=>x=i) FzH.refl i 0 177 1 rfl (.cons ?_ .nil)) .i (hΨ _ _ ⟨by rw[e1],by rw[e1]⟩);refine FzV.junk (n0:=g.length) (i:=g.length+3) (cs:=(zt ltP (M)).flatMap qe) (junk:=junk) (w:=w1) (t:=171) (z:=3) (by omega) (fun j=>by simp) (by simp) (by rw[zg yk]) (by simp) (by simp[zw,hj])
  ·skip
   rw[show jQ l s b (wr n)=(l.filter fun x=> !Zk s b x)++[⟨s,b,wr n⟩] by unfold jQ;simp[hz]] at e1 hun;generalize(l.filter fun x=> !Zk s b x)=M at *;have hml:=zg yk M;obtain⟨cs,hcs⟩:∃cs,cs=M.flatMap qe++junk:=⟨_,rfl⟩
   have hcl:cs.length=M.length*3+junk.length:=by rw[hcs,zuM,hml]
   have hcut:(if M.length*3=cs.length then cs else cs.take (M.length*3))=M.flatMap qe:=by
    have e:cs.take (M.length*3)=M.flatMap qe:=by rw[hcs,←hml,zv8];rfl
    split
    ·rename_i h;rw[←e,zvA (by omega)]
    ·exact e
   rw[←hcs];simp[show(wr n !=0)=true by simpa using hz,hcut,show M.length*3≤cs.length by omega,show(M.length+1)*40≤140737488355328 by omega];refine zc (fun k3=> ?_) (fun k3=> ?_)
   ·simp at k3;simp;exact bad 5 _ (by rw[e1,zuO (by simp;omega)])
   simp at k3;rw[zuQ (by simp;omega)] at e1;have hil:=zJ ltP (M++[⟨s,b,wr n⟩]);have hS:=fun G (hk:G[g.length+3]? =_)=>sortP (g:=G) (k:=g.length+3) (w:=w1+1) (rows:=M++[⟨s,b,wr n⟩]) (junk:=[]) hk hun (by first|omega|(simp;omega))
   try simp only[zuM,zuS,zvl] at hS hil
   try simp
   refine zb.go (hS _ (by simp[qe])) (fun x hx e=> .inl (by omega)) ?_;rintro u g' ⟨rfl,rfl⟩;simp[hi,li];rw[←hil];refine Gh.fz (g2:=g.set i (.own 0 177 1 [zgr (zt ltP (M++[(⟨s,b,wr n⟩:Pa)]))])) (FzH.put (W:=fun x=>x=i) FzH.refl i 0 177 1 rfl (.cons ?_ .nil)) .i (hΨ _ _ ⟨by rw[e1],by rw[e1]⟩);exact .fl (t:=171) yk (fun m a=>Qz a m) (by omega) (by simp)
 ·have hpr:Yk l s b=l[q].n:=by unfold Yk;rw[f2]
  rw[zvn] at f1;have a3:=(atX yk hq).2.2 2 (by decide);simp[qe] at a3;generalize l[q].n=has at *;simp[f1,hi,li,hq,a3];have e1:j9 l s b n=if wr (has+n)<0∨¬za (wr (has+n))=true then(6,l) else if 8<(jQ l s b (wr (has+n))).length then(5,l) else(0,zt ltP (jQ l s b (wr (has+n)))):=by rw[e0];simp only[hpr,zwz]
  have hun:=za9 hd s b (wr (has+n));have hrl:(l.filter fun x=> !Zk s b x).length≤100:=zvz (zv6 _ _) hl
  try simp
  refine zc (fun k1=> ?_) (fun k1=> ?_)
  ·simp at k1;simp;exact bad 6 _ (by rw[e1,zuO (.inl k1)])
  simp at k1;simp;refine zb.pure (yc ..) ?_;simp;refine zc (fun k2=> ?_) (fun k2=> ?_)
  rotate_left
  ·simp;exact bad 6 _ (by rw[e1,zuO (.inr (by simp[k2]))])
  rw[zuQ (by simp[k2];omega)] at e1;simp;refine zb.go (zfR hP.app (by omega)) (fun _ _ h=>h.elim) ?_;rintro u g' ⟨w1,rfl,rfl⟩;simp;refine zb.go (zcz (fi':=135) (q:=Zk s b) rfl rfl (by decide) rfl rfl yk (k:=g.length+3) (w:=w1) (l:=l) (junk:=[]) (by simp) (by omega) (fun a m=>Qz a m) (fun m=>by simp[zw]) (fun cells J=> .inr ⟨g.length+2,134,[],[.s (.ptr g.length 0 0),.s (.ptr (g.length+1) 0 0)],rfl,by simp,fun x _=>znR x s b (by simp) (by simp)⟩)) (fun x hx e=> .inl (by omega)) ?_;rintro u g' ⟨junk,hj,rfl,rfl⟩;simp;by_cases hz:wr (has+n)=0
  ·skip
   rw[show jQ l s b (wr (has+n))=l.filter fun x=> !Zk s b x by unfold jQ;simp[hz]] at e1 hun;generalize(l.filter fun x=> !Zk s b x)=M at *;have hml:=zg yk M;simp[hz];refine zc (fun k3=> ?_) (fun k3=> ?_)
   ·simp at k3;simp;exact bad 5 _ (by rw[e1,zuO (by omega)])
   simp at k3;rw[zuQ (by omega)] at e1;have hil:=zJ ltP (M);have hS:=fun G (hk:G[g.length+3]? =_)=>sortP (g:=G) (k:=g.length+3) (w:=w1) (rows:=M) (junk:=junk) hk hun (by first|omega|(simp;omega))
   try simp only[zuM,zuS,zvl] at hS hil
   try simp
   refine zb.go (hS _ (by simp[qe])) (fun x hx e=> .inl (by omega)) ?_;rintro u g' ⟨rfl,rfl⟩;simp[hi,li];rw[←hil];refine Gh.fz (g2:=g.set i (.own 0 177 1 [zgr (zt ltP (M))])) (FzH.put (W:=fun x=>x=i) FzH.refl i 0 177 1 rfl (.cons ?_ .nil)) .i (hΨ _ _ ⟨by rw[e1],by rw[e1]⟩);refine FzV.junk (n0:=g.length) (i:=g.length+3) (cs:=(zt ltP (M)).flatMap qe) (junk:=junk) (w:=w1) (t:=171) (z:=3) (by omega) (fun j=>by simp) (by simp) (by rw[zg yk]) (by simp) (by simp[zw,hj])
  ·skip
   rw[show jQ l s b (wr (has+n))=(l.filter fun x=> !Zk s b x)++[⟨s,b,wr (has+n)⟩] by unfold jQ;simp[hz]] at e1 hun;generalize(l.filter fun x=> !Zk s b x)=M at *;have hml:=zg yk M;obtain⟨cs,hcs⟩:∃cs,cs=M.flatMap qe++junk:=⟨_,rfl⟩
   have hcl:cs.length=M.length*3+junk.length:=by rw[hcs,zuM,hml]
   have hcut:(if M.length*3=cs.length then cs else cs.take (M.length*3))=M.flatMap qe:=by
    have e:cs.take (M.length*3)=M.flatMap qe:=by rw[hcs,←hml,zv8];rfl
    split
    ·rename_i h;rw[←e,zvA (by omega)]
    ·exact e
   rw[←hcs];simp[show(wr (has+n) !=0)=true by simpa using hz,hcut,show M.length*3≤cs.length by omega,show(M.length+1)*40≤140737488355328 by omega];refine zc (fun k3=> ?_) (fun k3=> ?_)
   ·simp at k3;simp;exact bad 5 _ (by rw[e1,zuO (by simp;omega)])
   simp at k3;rw[zuQ (by simp;omega)] at e1;have hil:=zJ ltP (M++[⟨s,b,wr (has+n)⟩]);have hS:=fun G (hk:G[g.length+3]? =_)=>sortP (g:=G) (k:=g.length+3) (w:=w1+1) (rows:=M++[⟨s,b,wr (has+n)⟩]) (junk:=[]) hk hun (by first|omega|(simp;omega))
   try simp only[zuM,zuS,zvl] at hS hil
   try simp
   refine zb.go (hS _ (by simp[qe])) (fun x hx e=> .inl (by omega)) ?_;rintro u g' ⟨rfl,rfl⟩;simp[hi,li];rw[←hil];refine Gh.fz (g2:=g.set i (.own 0 177 1 [zgr (zt ltP (M++[(⟨s,b,wr (has+n)⟩:Pa)]))])) (FzH.put (W:=fun x=>x=i) FzH.refl i 0 177 1 rfl (.cons ?_ .nil)) .i (hΨ _ _ ⟨by rw[e1],by rw[e1]⟩);exact .fl (t:=171) yk (fun m a=>Qz a m) (by omega) (by simp)
def QR:List Pa→List Int→Int
 |b::l,r::s=>zd b.n r+QR l s
 |_,_=>0
theorem zeC:∀(l:List Pa) (s:List Int) (k:Nat) (h1:k<l.length) (h2:k<s.length),QR (l.take (k+1)) (s.take (k+1))=QR (l.take k) (s.take k)+zd l[k].n s[k]
 |[],_,k,h1,_=>by simp at h1
 |_::_,[],k,_,h2=>by simp at h2
 |b::l,r::s,0,_,_=>by simp[QR]
 |b::l,r::s,k+1,h1,h2=>by simp only[zu3,QR,zwg];rw[zeC l s k (by simpa using h1) (by simpa using h2)];omega
theorem zkc:∀(l:List Pa) (s:List Int),-(4000000000001*(l.length:Int))≤QR l s∧QR l s≤4000000000001*(l.length:Int)
 |[],_=>by simp[QR]
 |b::l,[]=>by simp[QR];omega
 |b::l,r::s=>by have h1:=zkc l s;have h2:=zB b.n r;simp only[QR,zvr,zwu,zw4];omega
def zdY:List Pa→List Int→Bool
 |b::l,r::s=>zn r&& !decide (b.n<0)&&za b.n&&zdY l s
 |_,_=>true
theorem zkL:∀(l:List Pa) (s:List Int) (k:Nat) (h1:k<l.length) (h2:k<s.length),zdY l s=true→(zn s[k]&& !decide (l[k].n<0)&&za l[k].n)=true
 |[],_,k,h1,_,_=>by simp at h1
 |_::_,[],k,_,h2,_=>by simp at h2
 |b::l,r::s,0,_,_,h=>by simp only[zdY,zuP] at h;simpa[zuP] using h.1
 |b::l,r::s,k+1,h1,h2,h=>by simp only[zdY,zuP] at h;exact zkL l s k (by simpa using h1) (by simpa using h2) h.2
theorem zh0:∀(l:List Pa) (s:List Int),(∀(k:Nat) (h1:k<l.length) (h2:k<s.length),(zn s[k]&& !decide (l[k].n<0)&&za l[k].n)=true)→zdY l s=true
 |[],_,_=>rfl
 |_::_,[],_=>rfl
 |b::l,r::s,h=>by have h0:=h 0 (by simp) (by simp);rw[zdY,zuP];exact⟨h0,zh0 l s fun k h1 h2=>h (k+1) (by simpa using h1) (by simpa using h2)⟩
def zg8(l:List Pa)(s:List Int):Int×Int:=if s.length≠l.length then(0,1) else if zdY l s then(if za (QR l s) then(QR l s,0) else(0,6)) else(0,1)
theorem zng{g:XH}{v u:XV}{l:List Pa}{s:List Int}(hr:RdX g 171 3 qe v l)(hs:RdX g 3 1 zY u s)(hl:l.length≤1000):
 Cl C (fun _=>False) 93 [.s v,.s u] g fun u g'=>u= .tup [fi (zg8 l s).1,fi (zg8 l s).2]∧g'=g:=by
 refine Cl.ip rfl (zuF rfl) fun Ψ hΨ=> ?_;simp[hr.len,hs.len];refine zc (fun hc=> ?_) (fun hc=> ?_)
 ·simp at hc;replace hc:¬s.length=l.length:=by omega
  simp;exact Gh.here (hΨ _ _ ⟨by simp[zg8,hc],rfl⟩)
 simp at hc;replace hc:s.length=l.length:=by omega
 simp[hr.len,hs.len];have bad:∀J,zdY l s=false→Gh (fun _=>False) g Ψ (.tup [fi 0,fi 1]) (g++J):=fun J h=>Gh.pure (.t2 .i .i) (hΨ _ _ ⟨by simp[zg8,hc,h],rfl⟩);refine Lp.genU (σ:=Unit) l.length (fun k _=>[(6,fi (QR (l.take k) (s.take k))),(18,fi k)]) (fun _ _=>g) (fun k _=>∀(j:Nat),j<k→∀(h1:j<l.length) (h2:j<s.length),(zn s[j]&& !decide (l[j].n<0)&&za l[j].n)=true) () (by decide) rfl (by simp[QR]) rfl (by omega) ?_ ?_
 ·rintro q hq ⟨⟩ hP hlt N hN;obtain⟨p1,cs,o,b1,b2,b3,b4,b5,_⟩:=hr.atJ yk (by decide) hq;obtain⟨p2,cs2,o2,c1,c2,c3,c4⟩:=hs.at1 zG (k:=q) (by omega);have e1:=zeC l s q hq (by omega);have hb:=zkc (l.take q) (s.take q);have hb2:=zB l[q].n s[q];rw[zu0,zvu (by omega)] at hb;have hw:IntKind.i64.wrap (QR (l.take q) (s.take q)+zd l[q].n s[q])=QR (l.take (q+1)) (s.take (q+1)):=by rw[e1];exact ze (by omega) (by omega)
  have hno:(zn s[q]&& !decide (l[q].n<0)&&za l[q].n)=false→zdY l s=false:=fun h=>by
   cases h2:zdY l s with
   |false=>rfl
   |true=>exact absurd (zkL l s q hq (by omega) h2) (by rw[h];exact Bool.false_ne_true)
  simp[l93_0,hq,b1,b2,b3,b4,b5,c1,c2,c3,c4,qe,zY];refine zb.pure (Zc ..) ?_;simp;refine zc (fun h1=> ?_) (fun h1=> ?_)
  ·simp;refine zc (fun h2=> ?_) (fun h2=> ?_)
   ·simp at h2;simp;exact bad _ (hno (by simp[h1,h2]))
   ·simp at h2;simp;refine zb.pure (yc ..) ?_;simp;refine zc (fun h3=> ?_) (fun h3=> ?_)
    ·simp[c1,c2,c3,c4,zY];refine zb.pure (ofX ..) ?_;simp[hw,yN hq (by omega)];exact zam () hN (fun j hj a b=>if e:j<q then hP j e a b else by
      obtain rfl:j=q:=by omega
      simp only[h1,h3,zxB,zxm,zwR,zvY];omega) (by simp) (by simpa using hlt)
    ·simp;exact bad _ (hno (by simp[h3]))
  ·simp;exact bad _ (hno (by simp[h1]))
 ·rintro⟨⟩ hP;have hok:zdY l s=true:=zh0 l s fun k h1 h2=>hP k h1 h1 h2;rw[zve,zvA (by omega)];simp[l93_0];refine zb.pure (yc ..) ?_;simp;refine zc (fun h1=> ?_) (fun h1=> ?_)
  ·simp;exact Gh.here (hΨ _ _ ⟨by simp[zg8,hc,hok,h1],rfl⟩)
  ·simp;exact Gh.here (hΨ _ _ ⟨by simp[zg8,hc,hok,h1],rfl⟩)
def zay(m l:Int):Bool:=zn m&&y5 l
theorem zsf(m l:Int):Pure C 130 [fi m,fi l] (fb (zay m l)):=by
 refine Pure.intro0 (e:=e130) rfl (zuF rfl) (by simp) fun g Ψ h0 hJ=> ?_;simp;refine zb.pure (Zc ..) ?_;simp;refine zc (fun h1=> ?_) (fun h1=> ?_)
 ·simp;refine zc (fun h2=> ?_) (fun h2=> ?_)
  ·simp;exact Zv h0 (by simp at h2;simp[zay,y5,h1,h2])
  ·simp;exact Zv h0 (by simp at h2;simp[zay,y5,h1];omega)
 ·simp;exact Zv h0 (by simp[zay,h1])
theorem zkd{g:XH}{b:Bal}(h:BalL b):Cl C (fun _=>False) 157 [.agg (zj b)] g fun u g'=>u= .agg (zj b)∧g'=g:=by have h1:=h.lb;have h2:=h.lr;refine Cl.ip rfl (zuF rfl) fun Ψ hΨ=> ?_;simp[zj];refine zz 5 [1] (fun _=>False) (by decide) (by decide) ?_;simp only[zu3,zvs,zvd,zu8];simp;refine zb.go0 (znc (RdX.lst _ b.b) (by omega)) ?_;simp;refine zb.go0 (zfK (RdX.lst _ b.r) (by omega)) ?_;simp;exact Gh.pure (u':= .agg (zj b)) (.agg (.lts (Qy _ b))) (hΨ _ _ ⟨rfl,rfl⟩)
structure ProC(p:Pro):Prop where
 op:BalL p.op
 cl:BalL p.cl
 lv:p.cur.vec.length≤1000
 lr:p.rows.length≤1000
 ln:p.now.length≤1000
set_option maxRecDepth 8000 in
theorem zos{g:XH}{p:Pro}(h:ProC p):Cl C (fun _=>False) 80 [.agg (zF p)] g fun u g'=>u= .agg (zF p)∧g'=g:=by have h1:=h.op;have h2:=h.cl;have h3:=h.lv;have h4:=h.lr;have h5:=h.ln;refine Cl.ip rfl (zuF rfl) fun Ψ hΨ=> ?_;simp[zF,pC,zT,zj,zD];refine zz 5 [1] (fun _=>False) (by decide) (by decide) ?_;simp only[zu3,zvs,zvd,zu8];simp;refine zb.go0 (zkd h1) ?_;simp[zj];refine zb.go0 (zkd h2) ?_;simp[zj];refine zz 9 [1] (fun _=>False) (by decide) (by decide) ?_;simp only[zu3,zvs,zvd,zu8];simp;refine zb.go0 (zfK (RdX.lst _ p.cur.vec) (by omega)) ?_;simp;refine zb.go0 (zsP (RdX.lst _ p.rows) (by omega)) ?_;simp;refine zb.go0 (zfK (RdX.lst _ p.now) (by omega)) ?_;simp;exact Gh.pure (u':= .agg (zF p)) (.agg (.lts (QA _ p))) (hΨ _ _ ⟨rfl,rfl⟩)
end
end Go.Proofs.YtdmcfjkgopmlgaaGreatDoor.Ev.CA
namespace Go.Proofs.YtdmcfjkgopmlgaaGreatDoor.Ev
open Go
section
attribute [-simp] List.length_flatMap getElem?_pos
def KOs(n0:Nat)(J:XH)(K:List (Option Nat))(O:XH):List (Option Nat)→XH→Prop
 |[],[]=>True
 |none::ks,o::os=>(∃t z,o= .own 0 t z [])∧KOs n0 J K O ks os
 |some k::ks,o::os=>(∃w t z cs cs',J[k]? =some (.own w t z cs)∧o= .own w t z cs'∧FzVs n0 J K O cs cs')∧KOs n0 J K O ks os
 |_,_=>False
theorem KOs.at{n0:Nat}{J:XH}{K:List (Option Nat)}{O:XH}:∀{ks:List (Option Nat)} {os:XH},KOs n0 J K O ks os→ks.length=os.length∧∀(j:Nat) (o:XO),os[j]? =some o→(ks[j]? =some none∧∃t z,o= .own 0 t z [])∨∃k w t z cs cs',ks[j]? =some (some k)∧J[k]? =some (.own w t z cs)∧o= .own w t z cs'∧FzVs n0 J K O cs cs'
 |[],[],_=>⟨rfl,fun j o e=>by simp at e⟩
 |none::ks,o::os,h=>by
  obtain⟨h1,h2⟩:=h;obtain⟨h3,h4⟩:=KOs.at h2;refine⟨by simp[h3],fun j p e=> ?_⟩;cases j with
  |zero=>simp at e;subst e;exact .inl ⟨rfl,h1⟩
  |succ j=>exact h4 j p (by simpa using e)
 |some k::ks,o::os,h=>by
  obtain⟨⟨w,t,z,cs,cs',h1,h5,h6⟩,h2⟩:=h;obtain⟨h3,h4⟩:=KOs.at h2;refine⟨by simp[h3],fun j p e=> ?_⟩;cases j with
  |zero=>simp at e;subst e;exact .inr ⟨k,w,t,z,cs,cs',rfl,h1,h5,h6⟩
  |succ j=>exact h4 j p (by simpa using e)
 |[],_::_,h=>by simp[KOs] at h
 |none::_,[],h=>by simp[KOs] at h
 |some _::_,[],h=>by simp[KOs] at h
def zaF:List (Option Nat)→Bool
 |[]=>true
 |none::r=>zaF r
 |some k::r=> !r.contains (some k)&&zaF r
theorem zdb:∀{K:List (Option Nat)},zaF K=true→∀(j j' k:Nat),K[j]? =some (some k)→K[j']? =some (some k)→j=j'
 |[],_,j,_,k,e,_=>by simp at e
 |x::r,h,0,0,k,_,_=>rfl
 |x::r,h,0,j'+1,k,e,e'=>by
  simp at e e';subst e;simp[zaF] at h;exact absurd (zvE e') h.1
 |x::r,h,j+1,0,k,e,e'=>by
  simp at e e';subst e';simp[zaF] at h;exact absurd (zvE e) h.1
 |x::r,h,j+1,j'+1,k,e,e'=>by
  have h':zaF r=true:=by
   cases x with
   |none=>exact h
   |some a=>simp[zaF] at h;exact h.2
  rw[zdb h' j j' k (by simpa using e) (by simpa using e')]
theorem fzhK{W:Nat→Prop}{g J:XH}{K:List (Option Nat)}{O:XH}(hd:zaF K=true)(h:KOs g.length J K O K O):FzH W g.length J K O g g g:=
 ⟨rfl,rfl,fun i o e=> .inl ⟨e,.inl e⟩,h.at.1,zdb hd,h.at.2⟩
end
end Go.Proofs.YtdmcfjkgopmlgaaGreatDoor.Ev
namespace Go.Proofs.YtdmcfjkgopmlgaaGreatDoor.Ev.CA
open Go
section
attribute [-simp] List.length_flatMap getElem?_pos
abbrev zbt(s:Sta)(f:XV):List XV:=[xi s.book,xi s.perm,xi s.judge,xi s.cap,xi s.life,xi s.up,f,lpV s.l]
def yH(c:Clo):List XV:=zbt c.was (YI c.was.filed)++(zF c.p++[xi c.seq])
theorem zag(c:Clo):(yH c).length=50:=by simp[yH,YY]
@[simp] theorem zlD(c:Clo)(m:Nat):zw m (yH c):=by simp[yH,zF,pC,zT,zj,zD]
@[simp] theorem zs3(m:Nat)(l:List Clo):zw m (l.flatMap yH):=zZ (fun a=>zlD a m) l
structure Eo where
 i:Nat
 st:Nat
 sk:Nat
 r:Nat
 c:Nat
 f:Nat
def Eo.ids(o:Eo):List Nat:=[o.i,o.st,o.sk,o.r,o.c,o.f]
abbrev zdi(e:Ent)(o:Eo)(w wf:Nat):List XV:=[xs e.id,xs e.j,.ptr o.st 0 0]++zbt e.s (.sl o.f wf 0 e.s.filed.length)++[.ptr o.r 0 0,.sl o.c w 0 e.cs.length,xi e.first]
structure EntP(g:XH)(o:Eo)(e:Ent):Prop where
 nd:o.ids.Nodup
 i:∃w wf junk,(∀m,zw m junk)∧g[o.i]? =some (.own 0 108 14 (zdi e o w wf))∧g[o.c]? =some (.own w 159 50 (e.cs.flatMap yH++junk))∧g[o.f]? =some (.own wf 3 1 (e.s.filed.flatMap zY))
 st:JF g o.st o.sk e.first e.touched
 r:YB g o.r e.s.reg
theorem EntP.same{g G:XH}{o:Eo}{e:Ent}(h:EntP g o e)(hs:∀i∈o.ids,G[i]? =g[i]?):EntP G o e:=by
 obtain⟨nd,⟨w,wf,junk,h0,h1,h2,h3⟩,⟨w2,j2,h4,h5,h6⟩,h7⟩:=h;have q:∀i,i∈o.ids→G[i]? =g[i]? :=hs;refine⟨nd,⟨w,wf,junk,h0,?_,?_,?_⟩,⟨w2,j2,h4,?_,?_⟩,?_⟩
 ·rw[q _ (by simp[Eo.ids])];exact h1
 ·rw[q _ (by simp[Eo.ids])];exact h2
 ·rw[q _ (by simp[Eo.ids])];exact h3
 ·rw[q _ (by simp[Eo.ids])];exact h5
 ·rw[q _ (by simp[Eo.ids])];exact h6
 ·unfold YB at h7⊢;rw[q _ (by simp[Eo.ids])];exact h7
theorem EntP.lt{g:XH}{o:Eo}{e:Ent}(h:EntP g o e):∀i∈o.ids,i<g.length:=by
 obtain⟨nd,⟨w,wf,junk,h0,h1,h2,h3⟩,⟨w2,j2,h4,h5,h6⟩,h7⟩:=h;simp only[Eo.ids,zuX,zvS,or_false];rintro i (rfl|rfl|rfl|rfl|rfl|rfl)
 ·exact zf h1
 ·exact zf h5
 ·exact zf h6
 ·exact zf h7
 ·exact zf h2
 ·exact zf h3
theorem EntP.app{g J:XH}{o:Eo}{e:Ent}(h:EntP g o e):EntP (g++J) o e:=h.same fun i hi=>zq (h.lt i hi)
structure EntL(e:Ent):Prop where
 st:StaL e.first e.touched
 lo:LosI e.s.l
 reg:Q8 e.s.reg
 rl:e.s.reg.length≤400
 rd:jH ltB e.s.reg=true
 fl:e.s.filed.length≤1000
 cl:e.cs.length+1=e.touched.length
 cs:∀c∈e.cs,ProC c.p∧ProL c.p∧LosI c.was.l∧c.was.filed.length≤1000∧za c.p.cur.tax=true
def Jq(id j:ByteArray)(most life first:Int):Prop:=¬id.size=0∧¬j.size=0∧zay most life=true∧zm first=true
instance (id j:ByteArray)(most life first:Int):Decidable (Jq id j most life first):=by unfold Jq;infer_instance
def qo(id j:ByteArray)(fx most life first:Int):Ent:=⟨id,j,fx,first,[false],⟨0,0,0,most,life,0,[],[],[]⟩,[]⟩
theorem zs4(g:XH)(id j:ByteArray)(fx most life first:Int):Cl C (fun _=>False) 66 [fs id,fs j,fi most,fi life,fi first] g fun u g'=>
 if Jq id j most life first then∃o J,(∀i∈o.ids,g.length≤i)∧u= .tup [.s (.ptr o.i 0 0),fi 0]∧g'=g++J∧EntP g' o (qo id j fx most life first) else u= .tup [.s (.v .nilp),fi 1]∧g'=g:=by
 refine Cl.ip rfl (zuF rfl) fun Ψ hΨ=> ?_;have bad:∀J,¬Jq id j most life first→Gh (fun _=>False) g Ψ (.tup [.s (.v .nilp),fi 1]) (g++J):=fun J h=>Gh.pure (.t2 (.s (.lt (by simp))) .i) (hΨ _ _ (by rw[zuQ h];exact⟨rfl,rfl⟩))
 by_cases c1:id.size=0
 ·simp[show id.toList.isEmpty=true by rw[yM];exact zvZ c1];have:=bad [] fun h=>h.1 c1;simpa using this
 by_cases c2:j.size=0
 ·simp[show id.toList.isEmpty=false by rw[yM];exact zv2 c1,show j.toList.isEmpty=true by rw[yM];exact zvZ c2];have:=bad [] fun h=>h.2.1 c2;simpa using this
 simp[show id.toList.isEmpty=false by rw[yM];exact zv2 c1,show j.toList.isEmpty=false by rw[yM];exact zv2 c2];refine zb.pure (zsf ..) ?_;simp;refine zc (fun c3=> ?_) (fun c3=> ?_)
 rotate_left
 ·simp;have:=bad [] fun h=>by have:=h.2.2.1;rw[c3] at this;cases this
  simpa using this
 simp;refine zb.pure (Zg ..) ?_;simp;refine zc (fun c4=> ?_) (fun c4=> ?_)
 rotate_left
 ·simp;have:=bad [] fun h=>by have:=h.2.2.2;rw[c4] at this;cases this
  simpa using this
 have hok:Jq id j most life first:=⟨c1,c2,c3,c4⟩
 simp;have hS:=zt8 g first
 simp only[c4,if_true] at hS;refine zb.go hS (fun _ _ h=>h.elim) ?_;rintro u g' ⟨rfl,rfl⟩;simp;refine zb.go (zts _) (fun _ _ h=>h.elim) ?_;rintro u g' ⟨rfl,rfl⟩;simp;refine zb.go (ztX _) (fun _ _ h=>h.elim) ?_;rintro u g' ⟨rfl,rfl⟩;simp;have lx:∀n:Int,lvV g.length (xi n):=fun n=>by simp
 refine Gh.keep [some 0,some 1,some 2,some 3,none,none] [.own 0 4 1 [xb false],.own 0 257 2 [xi first,.sl g.length 0 0 1],.own 0 263 1 [.lst 261 3 0 []],.own 0 108 14 (zdi (qo id j fx most life first) ⟨g.length+3,g.length+1,g.length,g.length+2,g.length+4,g.length+5⟩ 0 0),.own 0 159 50 [],.own 0 3 1 []] (fzhK rfl ⟨⟨_,_,_,_,_,rfl,rfl,.cons (.lt (by simp)) .nil⟩,⟨_,_,_,_,_,rfl,rfl,.cons (.lt (by simp)) (.cons (.ksl (j:=0) (k:=0) rfl) .nil)⟩,⟨_,_,_,_,_,rfl,rfl,.lts (by simp)⟩,⟨_,_,_,_,_,rfl,rfl,?_⟩,⟨_,_,rfl⟩,⟨_,_,rfl⟩,trivial⟩) (.t2 (.s (.kptr (j:=3) (k:=3) rfl)) .i) (hΨ _ _ ?_)
 ·exact .cons (.lt (by simp)) (.cons (.lt (by simp)) (.cons (.kptr (j:=1) (k:=1) rfl) (.cons (.lt (lx _)) (.cons (.lt (lx _)) (.cons (.lt (lx _)) (.cons (.lt (lx _)) (.cons (.lt (lx _)) (.cons (.lt (lx _)) (.cons (.gh (j:=5) rfl rfl) (.cons (.lt (by simp)) (.cons (.kptr (j:=2) (k:=2) rfl) (.cons (.gh (j:=4) rfl rfl) (.cons (.lt (lx _)) .nil)))))))))))))
 ·rw[zuO hok];refine⟨⟨g.length+3,g.length+1,g.length,g.length+2,g.length+4,g.length+5⟩,_,?_,rfl,rfl,?_,⟨0,0,[],fun m=>by simp[zw],by simp,by simp[qo],by simp[qo]⟩,⟨0,[],fun m=>by simp[zw],by simp[qo],by simp[qo]⟩,by simp[YB,qo]⟩
  ·simp[Eo.ids]
  ·simp[Eo.ids]
theorem nk1{k m:Nat}(h:m≠k):zl4 [some k] m:=by
 intro j;cases j with
 |zero=>simp;omega
 |succ j=>simp
theorem zhs{g:XH}(s:Sta){fv:XV}(hf:RdX g 3 1 zY fv s.filed)(h1:s.filed.length≤1000)(h2:s.l.length≤1000):Cl C (fun _=>False) 96 [.agg (zbt s fv)] g fun u g'=>∃w,u= .agg (zbt s (.sl g.length w 0 s.filed.length))∧g'=g++[.own w 3 1 (s.filed.flatMap zY)]:=by
 refine Cl.ip rfl (zuF rfl) fun Ψ hΨ=> ?_;simp;refine zz 5 [1] (fun _=>False) (by decide) (by decide) ?_;simp only[zu3,zvs,zvd,zu8];simp;refine zb.go (JQ (enc:=zY) (z:=1) rfl rfl rfl zG (by decide) hf.app (fun a=>by simp[zY]) (by omega)) (fun _ _ h=>h.elim) ?_;rintro u g' ⟨w,rfl,rfl⟩;simp;refine zb.go (zhH (znY _ s.l) (by omega)) (fun _ _ h=>h.elim) ?_;rintro u g' ⟨rfl,w2,rfl⟩;simp;have lx:∀n:Int,lvV g.length (xi n):=fun n=>by simp
 refine Gh.keep [some 2] [.own w 3 1 (s.filed.flatMap zY)] (fzhK rfl ⟨⟨_,_,_,_,_,rfl,rfl,.lts (by simp)⟩,trivial⟩) (.agg (.cons (.lt (lx _)) (.cons (.lt (lx _)) (.cons (.lt (lx _)) (.cons (.lt (lx _)) (.cons (.lt (lx _)) (.cons (.lt (lx _)) (.cons (.ksl (j:=0) (k:=2) rfl) (.cons ?_ .nil))))))))) (hΨ _ _ ⟨w,rfl,rfl⟩);refine .ptr (i:=g.length+4) (t:=295) (z:=1) (by omega) (nk1 (by omega)) (by simp) (by simp) (.cons (.full (i:=g.length+3) (w:=w2) (t:=327) (z:=3) (n:=s.l.length) (cs:=s.l.flatMap yR) (by omega) (nk1 (by omega)) (by simp) (by rw[zg zN]) (.lts (by simp))) .nil)
theorem zlR{g:XH}(s:Sta){fv:XV}(hf:RdX g 3 1 zY fv s.filed)(h1:s.filed.length≤1000)(h2:s.l.length≤1000):Cl C (fun _=>False) 96 [.agg (zbt s fv)] g fun u g'=>u= .agg (zbt s (YI s.filed))∧g'=g:=by
 refine Cl.gh ((zhs s hf h1 h2).mono ?_);rintro u g' ⟨w,rfl,rfl⟩;have lx:∀n:Int,lvV g.length (xi n):=fun n=>by simp
 refine Gh.pure (.agg (.cons (.lt (lx _)) (.cons (.lt (lx _)) (.cons (.lt (lx _)) (.cons (.lt (lx _)) (.cons (.lt (lx _)) (.cons (.lt (lx _)) (.cons ?_ (.cons (.lt (by simp)) .nil))))))))) ⟨rfl,rfl⟩;exact .full (zuL _) (fun j=>by simp) (by simp) (by rw[zg zG]) (.lts (by simp))
structure Sam(S:Nat→Prop)(g g':XH):Prop where
 len:g'.length=g.length
 same:∀j:Nat,¬S j→g'[j]? =g[j]?
theorem Upd.sam{S:Nat→Prop}{g g':XH}(h:Upd S g g'):Sam S g g':=⟨h.len,h.same⟩
theorem Sam.refl{S:Nat→Prop}{g:XH}:Sam S g g:=⟨rfl,fun _ _=>rfl⟩
theorem Sam.trans{S:Nat→Prop}{g g' g'':XH}(h:Sam S g g')(k:Sam S g' g''):Sam S g g'':=⟨k.len.trans h.len,fun j hj=>(k.same j hj).trans (h.same j hj)⟩
theorem Sam.mono{S T:Nat→Prop}{g g':XH}(h:Sam S g g')(hs:∀j,S j→T j):Sam T g g':=⟨h.len,fun j hj=>h.same j fun k=>hj (hs j k)⟩
theorem Sam.set{S:Nat→Prop}{g:XH}{i:Nat}(hi:S i)(o:XO):Sam S g (g.set i o):=⟨by simp,fun j hj=>by rw[zuR (by rintro rfl;exact hj hi)]⟩
theorem Sam.cut{S:Nat→Prop}{g J g':XH}(h:Sam S (g++J) g')(hS:∀j,S j→j<g.length):∃G,g'=G++J∧Sam S g G:=by
 refine⟨g'.take g.length,?_,by rw[zu0,h.len];simp,fun j hj=> ?_⟩
 ·have h1:g'.drop g.length=J:=by
   refine zv0 fun j=> ?_;rw[zvH,h.same _ (fun k=>by have:=hS _ k;omega),zuN (by omega)];congr 1;omega
  rw[←h1,zvj]
 ·rw[zvh];split
  ·rename_i hl;rw[h.same j hj,zuK hl]
  ·rename_i hl;rw[zvK (by omega)]
theorem EntP.old{g:XH}{o:Eo}{e:Ent}(h:EntP g o e){n:Nat}(hn:∀i∈o.ids,i<n):∀i∈o.ids,∀x:XO,g[i]? =some x→lvO n x:=by
 obtain⟨nd,⟨w,wf,junk,h0,h1,h2,h3⟩,⟨w2,j2,h4,h5,h6⟩,h7⟩:=h;have h7:g[o.r]? =_:=h7;have n1:=hn o.st (by simp[Eo.ids]);have n2:=hn o.sk (by simp[Eo.ids]);have n3:=hn o.r (by simp[Eo.ids]);have n4:=hn o.c (by simp[Eo.ids]);have n5:=hn o.f (by simp[Eo.ids]);simp only[Eo.ids,zuX,zvS,or_false];rintro i (rfl|rfl|rfl|rfl|rfl|rfl) x hx
 ·rw[h1] at hx;cases hx;simp[lvO,n1,n2,n3,n4,n5]
 ·rw[h5] at hx;cases hx;simp[lvO,n1,n2,n3,n4,n5]
 ·rw[h6] at hx;cases hx;simp[lvO,h4]
 ·rw[h7] at hx;cases hx;simp[lvO]
 ·rw[h2] at hx;cases hx;simp[lvO,h0]
 ·rw[h3] at hx;cases hx;simp[lvO]
theorem EntP.upd{g g':XH}{o:Eo}{e:Ent}(h:EntP g' o e)(hs:Sam (fun x=>x∈o.ids) g g'):Upd (fun x=>x∈o.ids) g g':=by
 refine⟨hs.len,hs.same,fun j x hx=> ?_⟩;by_cases hj:j∈o.ids
 ·exact .inr (h.old (fun i hi=>by rw[←hs.len];exact h.lt i hi) j hj x hx)
 ·rw[hs.same j hj] at hx;exact .inl hx
theorem zak{W:Nat→Prop}{g J g':XH}{o:Eo}{e:Ent}{u:XF}{Ψ:XF→XH→Prop}(h:EntP g' o e)(hs:Sam (fun x=>x∈o.ids) (g++J) g')(hl:∀i∈o.ids,i<g.length)(hu:lvF g.length u)(hp:∀G,Sam (fun x=>x∈o.ids) g G→EntP G o e→Ψ u G):Gh W g Ψ u g':=by obtain⟨G,rfl,h1⟩:=hs.cut hl;have h2:EntP G o e:=h.same fun i hi=>(zq (by rw[h1.len];exact hl i hi)).symm;exact qZ (h2.upd h1) hu (hp G h1 h2)
theorem EntP.setSt{g G:XH}{o:Eo}{e:Ent}(h:EntP g o e){t:List Bool}(hs:∀j∈o.ids,j≠o.st→j≠o.sk→G[j]? =g[j]?)(ht:JF G o.st o.sk e.first t):EntP G o {e with touched:=t}:=by
 obtain⟨nd,⟨w,wf,junk,h0,h1,h2,h3⟩,h4,h5⟩:=h;have n:=nd;simp[Eo.ids] at n;have h5:g[o.r]? =_:=h5;refine⟨nd,⟨w,wf,junk,h0,?_,?_,?_⟩,ht,?_⟩
 ·rw[hs _ (by simp[Eo.ids]) (by omega) (by omega)];exact h1
 ·rw[hs _ (by simp[Eo.ids]) (by omega) (by omega)];exact h2
 ·rw[hs _ (by simp[Eo.ids]) (by omega) (by omega)];exact h3
 ·show G[o.r]? =_;rw[hs _ (by simp[Eo.ids]) (by omega) (by omega)];exact h5
def zA(e:Ent)(d:Int×Sta):Int×Ent:=
 if¬zm (yE e.first e.touched)=true then(8,e)
 else if d.1=0 then(0,{e with s:=d.2,touched:=e.touched.set (e.touched.length-1) true}) else(d.1,{e with s:=d.2})
theorem ZJ{g:XH}{o:Eo}{e:Ent}(h:EntP g o e)(hL:StaL e.first e.touched){k f:Nat}{a b:List XF}(hk:g[k]? =some (.clo f a b))(d:Int×Sta)(hdo:Cl C (fun x=>x∈o.ids) f (a++b) g fun u g'=>u=fi d.1∧EntP g' o {e with s:=d.2}∧Sam (fun x=>x∈o.ids) g g'):
 Cl C (fun x=>x∈o.ids) 45 [.s (.ptr o.i 0 0),.s (.cl k)] g fun u g'=>u=fi (zA e d).1∧EntP g' o (zA e d).2∧Sam (fun x=>x∈o.ids) g g':=by
 have hP:=h;obtain⟨nd,⟨w,wf,junk,h0,hi,hc,hf⟩,hst,hr⟩:=h;have li:=zf hi;have lk:=zf hk;refine Cl.ip rfl (zuF rfl) fun Ψ hΨ=> ?_;simp[hi,li];refine zb.go0 (zcL hst hL) ?_;cases hp:zm (yE e.first e.touched) with
 |false=>
  simp;exact Gh.here (hΨ _ _ (by simp only[zA,hp];exact⟨rfl,hP,Sam.refl⟩))
 |true=>
  simp[hk,lk];refine zb.go hdo (fun x hx e=> .inr e) ?_;rintro u g' ⟨rfl,hE,hS⟩;simp;refine zc (fun c1=> ?_) (fun c1=> ?_)
  ·simp at c1;simp;exact Gh.here (hΨ _ _ (by simp only[zA,hp,not_true_eq_false,if_false,zuQ c1];exact⟨trivial,hE,hS⟩))
  simp at c1;have hE':=hE;obtain⟨_,⟨w',wf',junk',h0',hi',_,_⟩,hst',_⟩:=hE;have li':=zf hi';simp[hi',li'];have n:=nd;simp[Eo.ids] at n;refine zb.go (zoO hst' (by omega) hL) (fun x hx e=> .inr (by rw[e];simp[Eo.ids])) ?_;rintro u g2 ⟨rfl,hT,hU⟩;simp[zgX,hp] at hT⊢;refine Gh.here (hΨ _ _ ?_);simp only[zA,hp,not_true_eq_false,if_false,zuO c1];exact⟨trivial,hE'.setSt (t:=e.touched.set (e.touched.length-1) true) (fun j hj h1 h2=>hU.same j h2) hT,hS.trans (hU.sam.mono fun j h=>by rw[h];simp[Eo.ids])⟩
def qz(s n:Int):Int×Int:=if¬za n=true then(1,s) else if¬za (wr (s+n))=true then(6,s) else(0,wr (s+n))
theorem zi8{g:XH}{i t z off:Nat}{cs:List XV}{s:Int}(hi:g[i]? =some (.own 0 t z cs))(ho:cs[off]? =some (xi s))(n:Int):Cl C (fun x=>x=i) 47 [.s (.ptr i 0 off),fi n] g fun u g'=>u=fi (qz s n).1∧g'=g.set i (.own 0 t z (cs.set off (xi (qz s n).2))):=by
 have li:=zf hi;have lo:off<cs.length:=(zuJ.1 ho).1;have hsame:∀a,qz s n=(a,s)→g.set i (.own 0 t z (cs.set off (xi (qz s n).2)))=g:=fun a e=>by
  rw[e];have:cs.set off (xi s)=cs:=by
   refine zv0 fun j=> ?_;by_cases hj:off=j
   ·subst hj;rw[zu1 lo,ho]
   ·rw[zuR hj]
  rw[this];exact jc hi
 refine Cl.ip rfl (zuF rfl) fun Ψ hΨ=> ?_;simp;refine zb.pure (yc ..) ?_;simp;refine zc (fun c1=> ?_) (fun c1=> ?_)
 rotate_left
 ·simp;exact Gh.here (hΨ _ _ (by rw[hsame 1 (by simp[qz,c1])];exact⟨by simp[qz,c1],rfl⟩))
 simp[hi,li,ho,lo];refine zb.pure (yc ..) ?_;simp;refine zc (fun c2=> ?_) (fun c2=> ?_)
 rotate_left
 ·simp;exact Gh.here (hΨ _ _ (by rw[hsame 6 (by simp[qz,c1,c2])];exact⟨by simp[qz,c1,c2],rfl⟩))
 simp[hi,li,ho,lo];have hne:cs≠[]:=fun e=>by rw[e] at lo;simp at lo
 simp[hne,show off+1≤cs.length by omega];exact Gh.here (hΨ _ _ (by simp[qz,c1,c2]))
theorem EntP.setS{g:XH}{o:Eo}{e:Ent}(h:EntP g o e){w wf:Nat}(hi:g[o.i]? =some (.own 0 108 14 (zdi e o w wf)))(s':Sta)(hf:s'.filed=e.s.filed)(hr:s'.reg=e.s.reg):EntP (g.set o.i (.own 0 108 14 (zdi {e with s:=s'} o w wf))) o {e with s:=s'}:=by
 obtain⟨nd,⟨w',wf',junk,h0,h1,h2,h3⟩,⟨w2,j2,h4,h5,h6⟩,h7⟩:=h;have n:=nd;simp[Eo.ids] at n;have li:=zf hi;have e1:=h1.symm.trans hi;simp at e1;obtain⟨rfl,rfl⟩:wf'=wf∧w'=w:=e1;have h7:g[o.r]? =_:=h7;refine⟨nd,⟨w',wf',junk,h0,zu1 li,?_,?_⟩,⟨w2,j2,h4,?_,?_⟩,?_⟩
 ·rw[zuR (by omega)];exact h2
 ·rw[zuR (by omega)];simp only[hf];exact h3
 ·rw[zuR (by omega)];exact h5
 ·rw[zuR (by omega)];exact h6
 ·show(g.set _ _)[o.r]? =_;rw[zuR (by omega),h7];simp only[hr]
theorem EntP.setR{g G:XH}{o:Eo}{e:Ent}(h:EntP g o e){l:List Bu}(hs:Sam (fun x=>x=o.r) g G)(hr:YB G o.r l):EntP G o {e with s:={e.s with reg:=l}}:=by
 obtain⟨nd,⟨w',wf',junk,h0,h1,h2,h3⟩,⟨w2,j2,h4,h5,h6⟩,h7⟩:=h;have n:=nd;simp[Eo.ids] at n;refine⟨nd,⟨w',wf',junk,h0,?_,?_,?_⟩,⟨w2,j2,h4,?_,?_⟩,hr⟩
 all_goals(rw[hs.same _ (by omega)];assumption)
def QY(s:Sta)(n:Int):Int×Sta:=((qz s.book n).1,{s with book:=(qz s.book n).2})
theorem zsI{g:XH}{o:Eo}{e:Ent}(h:EntP g o e){a b:Nat}{n:Int}(ha:g[a]? =some (.own 0 45 1 [.ptr o.i 0 0]))(hb:g[b]? =some (.own 0 3 1 [xi n])):Cl C (fun x=>x∈o.ids) 46 [.s (.ptr a 0 0),.s (.ptr b 0 0)] g fun u g'=>u=fi (QY e.s n).1∧EntP g' o {e with s:=(QY e.s n).2}∧Sam (fun x=>x∈o.ids) g g':=by have hP:=h;obtain⟨nd,⟨w,wf,junk,h0,hi,hc,hf⟩,hst,hr⟩:=h;have li:=zf hi;have la:=zf ha;have lb:=zf hb;have hlt:=hP.lt;refine Cl.ip rfl (zuF rfl) fun Ψ hΨ=> ?_;simp[hi,li,ha,la,hb,lb];refine zb.go (zi8 (off:=3) hi (s:=e.s.book) rfl n) (fun x hx e=> .inr (by rw[e];simp[Eo.ids])) ?_;rintro u g' ⟨rfl,rfl⟩;simp;exact Gh.here (hΨ _ _ ⟨rfl,hP.setS hi (QY e.s n).2 rfl rfl,Sam.set (by simp[Eo.ids]) _⟩)
theorem zqj{g:XH}{o:Eo}{e:Ent}(h:EntP g o e)(hL:StaL e.first e.touched)(n:Int):Cl C (fun x=>x∈o.ids) 16 [.s (.ptr o.i 0 0),fi n] g fun u g'=>u=fi (zA e (QY e.s n)).1∧EntP g' o (zA e (QY e.s n)).2∧Sam (fun x=>x∈o.ids) g g':=by refine Cl.ip rfl (zuF rfl) fun Ψ hΨ=> ?_;simp;refine zb.go (ZJ (g:=g++[.own 0 45 1 [.ptr o.i 0 0],.own 0 3 1 [xi n],.clo 46 [] [.s (.ptr g.length 0 0),.s (.ptr (g.length+1) 0 0)]]) h.app hL (k:=g.length+2) (f:=46) (a:=[]) (b:=[.s (.ptr g.length 0 0),.s (.ptr (g.length+1) 0 0)]) (by simp) (QY e.s n) (zsI h.app (a:=g.length) (b:=g.length+1) (by simp) (by simp))) (fun x hx e=> .inr e) ?_;rintro u g' ⟨rfl,hE,hS⟩;simp;exact zak hE hS h.lt (by simp) fun G h1 h2=>hΨ _ _ ⟨rfl,h2,h1⟩
def Q1(s:Sta)(n:Int):Int×Sta:=((qz s.perm n).1,{s with perm:=(qz s.perm n).2})
theorem ztS{g:XH}{o:Eo}{e:Ent}(h:EntP g o e){a b:Nat}{n:Int}(ha:g[a]? =some (.own 0 45 1 [.ptr o.i 0 0]))(hb:g[b]? =some (.own 0 3 1 [xi n])):Cl C (fun x=>x∈o.ids) 141 [.s (.ptr a 0 0),.s (.ptr b 0 0)] g fun u g'=>u=fi (Q1 e.s n).1∧EntP g' o {e with s:=(Q1 e.s n).2}∧Sam (fun x=>x∈o.ids) g g':=by have hP:=h;obtain⟨nd,⟨w,wf,junk,h0,hi,hc,hf⟩,hst,hr⟩:=h;have li:=zf hi;have la:=zf ha;have lb:=zf hb;have hlt:=hP.lt;refine Cl.ip rfl (zuF rfl) fun Ψ hΨ=> ?_;simp[hi,li,ha,la,hb,lb];refine zb.go (zi8 (off:=4) hi (s:=e.s.perm) rfl n) (fun x hx e=> .inr (by rw[e];simp[Eo.ids])) ?_;rintro u g' ⟨rfl,rfl⟩;simp;exact Gh.here (hΨ _ _ ⟨rfl,hP.setS hi (Q1 e.s n).2 rfl rfl,Sam.set (by simp[Eo.ids]) _⟩)
theorem zqn{g:XH}{o:Eo}{e:Ent}(h:EntP g o e)(hL:StaL e.first e.touched)(n:Int):Cl C (fun x=>x∈o.ids) 70 [.s (.ptr o.i 0 0),fi n] g fun u g'=>u=fi (zA e (Q1 e.s n)).1∧EntP g' o (zA e (Q1 e.s n)).2∧Sam (fun x=>x∈o.ids) g g':=by refine Cl.ip rfl (zuF rfl) fun Ψ hΨ=> ?_;simp;refine zb.go (ZJ (g:=g++[.own 0 45 1 [.ptr o.i 0 0],.own 0 3 1 [xi n],.clo 141 [] [.s (.ptr g.length 0 0),.s (.ptr (g.length+1) 0 0)]]) h.app hL (k:=g.length+2) (f:=141) (a:=[]) (b:=[.s (.ptr g.length 0 0),.s (.ptr (g.length+1) 0 0)]) (by simp) (Q1 e.s n) (ztS h.app (a:=g.length) (b:=g.length+1) (by simp) (by simp))) (fun x hx e=> .inr e) ?_;rintro u g' ⟨rfl,hE,hS⟩;simp;exact zak hE hS h.lt (by simp) fun G h1 h2=>hΨ _ _ ⟨rfl,h2,h1⟩
def zhQ(s:Sta)(c y n:Int):Int×Sta:=((jx s.reg c y n).1,{s with reg:=(jx s.reg c y n).2})
theorem ztF{g:XH}{o:Eo}{e:Ent}(h:EntP g o e)(hI:Q8 e.s.reg){a b1 b2 b3:Nat}{c y n:Int}(ha:g[a]? =some (.own 0 45 1 [.ptr o.i 0 0]))(hb1:g[b1]? =some (.own 0 3 1 [xi c]))(hb2:g[b2]? =some (.own 0 3 1 [xi y]))(hb3:g[b3]? =some (.own 0 3 1 [xi n])):Cl C (fun x=>x∈o.ids) 142 [.s (.ptr a 0 0),.s (.ptr b1 0 0),.s (.ptr b2 0 0),.s (.ptr b3 0 0)] g fun u g'=>u=fi (zhQ e.s c y n).1∧EntP g' o {e with s:=(zhQ e.s c y n).2}∧Sam (fun x=>x∈o.ids) g g':=by have hP:=h;obtain⟨nd,⟨w,wf,junk,h0,hi,hc,hf⟩,hst,hr⟩:=h;have li:=zf hi;have la:=zf ha;have lb1:=zf hb1;have lb2:=zf hb2;have lb3:=zf hb3;refine Cl.ip rfl (zuF rfl) fun Ψ hΨ=> ?_;simp[hi,li,ha,la,hb1,lb1,hb2,lb2,hb3,lb3];refine zb.go (zq8 hr hI c y n) (fun x hx e=> .inr (by rw[e];simp[Eo.ids])) ?_;rintro u g' ⟨rfl,hR,hU⟩;simp;exact Gh.here (hΨ _ _ ⟨rfl,hP.setR hU.sam hR,hU.sam.mono fun j e=>by rw[e];simp[Eo.ids]⟩)
theorem zqm{g:XH}{o:Eo}{e:Ent}(h:EntP g o e)(hL:StaL e.first e.touched)(hI:Q8 e.s.reg)(c y n:Int):Cl C (fun x=>x∈o.ids) 71 [.s (.ptr o.i 0 0),fi c,fi y,fi n] g fun u g'=>u=fi (zA e (zhQ e.s c y n)).1∧EntP g' o (zA e (zhQ e.s c y n)).2∧Sam (fun x=>x∈o.ids) g g':=by refine Cl.ip rfl (zuF rfl) fun Ψ hΨ=> ?_;simp;refine zb.go (ZJ (g:=g++[.own 0 45 1 [.ptr o.i 0 0],.own 0 3 1 [xi c],.own 0 3 1 [xi y],.own 0 3 1 [xi n],.clo 142 [] [.s (.ptr g.length 0 0),.s (.ptr (g.length+1) 0 0),.s (.ptr (g.length+2) 0 0),.s (.ptr (g.length+3) 0 0)]]) h.app hL (k:=g.length+4) (f:=142) (a:=[]) (b:=[.s (.ptr g.length 0 0),.s (.ptr (g.length+1) 0 0),.s (.ptr (g.length+2) 0 0),.s (.ptr (g.length+3) 0 0)]) (by simp) (zhQ e.s c y n) (ztF h.app hI (a:=g.length) (b1:=g.length+1) (b2:=g.length+2) (b3:=g.length+3) (by simp) (by simp) (by simp) (by simp))) (fun x hx e=> .inr e) ?_;rintro u g' ⟨rfl,hE,hS⟩;simp;exact zak hE hS h.lt (by simp) fun G h1 h2=>hΨ _ _ ⟨rfl,h2,h1⟩
def zih(s:Sta)(c y c2 y2 n:Int):Int×Sta:=((ya s.reg c y c2 y2 n).1,{s with reg:=(ya s.reg c y c2 y2 n).2})
theorem zl9{g:XH}{o:Eo}{e:Ent}(h:EntP g o e)(hI:Q8 e.s.reg){a b1 b2 b3 b4 b5:Nat}{c y c2 y2 n:Int}(ha:g[a]? =some (.own 0 45 1 [.ptr o.i 0 0]))(hb1:g[b1]? =some (.own 0 3 1 [xi c]))(hb2:g[b2]? =some (.own 0 3 1 [xi y]))(hb3:g[b3]? =some (.own 0 3 1 [xi c2]))(hb4:g[b4]? =some (.own 0 3 1 [xi y2]))(hb5:g[b5]? =some (.own 0 3 1 [xi n])):Cl C (fun x=>x∈o.ids) 144 [.s (.ptr a 0 0),.s (.ptr b1 0 0),.s (.ptr b2 0 0),.s (.ptr b3 0 0),.s (.ptr b4 0 0),.s (.ptr b5 0 0)] g fun u g'=>u=fi (zih e.s c y c2 y2 n).1∧EntP g' o {e with s:=(zih e.s c y c2 y2 n).2}∧Sam (fun x=>x∈o.ids) g g':=by have hP:=h;obtain⟨nd,⟨w,wf,junk,h0,hi,hc,hf⟩,hst,hr⟩:=h;have li:=zf hi;have la:=zf ha;have lb1:=zf hb1;have lb2:=zf hb2;have lb3:=zf hb3;have lb4:=zf hb4;have lb5:=zf hb5;refine Cl.ip rfl (zuF rfl) fun Ψ hΨ=> ?_;simp[hi,li,ha,la,hb1,lb1,hb2,lb2,hb3,lb3,hb4,lb4,hb5,lb5];refine zb.go (zjL hr hI c y c2 y2 n) (fun x hx e=> .inr (by rw[e];simp[Eo.ids])) ?_;rintro u g' ⟨rfl,hR,hU⟩;simp;exact Gh.here (hΨ _ _ ⟨rfl,hP.setR hU.sam hR,hU.sam.mono fun j e=>by rw[e];simp[Eo.ids]⟩)
theorem zja{g:XH}{o:Eo}{e:Ent}(h:EntP g o e)(hL:StaL e.first e.touched)(hI:Q8 e.s.reg)(c y c2 y2 n:Int):Cl C (fun x=>x∈o.ids) 72 [.s (.ptr o.i 0 0),fi c,fi y,fi c2,fi y2,fi n] g fun u g'=>u=fi (zA e (zih e.s c y c2 y2 n)).1∧EntP g' o (zA e (zih e.s c y c2 y2 n)).2∧Sam (fun x=>x∈o.ids) g g':=by refine Cl.ip rfl (zuF rfl) fun Ψ hΨ=> ?_;simp;refine zb.go (ZJ (g:=g++[.own 0 45 1 [.ptr o.i 0 0],.own 0 3 1 [xi c],.own 0 3 1 [xi y],.own 0 3 1 [xi c2],.own 0 3 1 [xi y2],.own 0 3 1 [xi n],.clo 144 [] [.s (.ptr g.length 0 0),.s (.ptr (g.length+1) 0 0),.s (.ptr (g.length+2) 0 0),.s (.ptr (g.length+3) 0 0),.s (.ptr (g.length+4) 0 0),.s (.ptr (g.length+5) 0 0)]]) h.app hL (k:=g.length+6) (f:=144) (a:=[]) (b:=[.s (.ptr g.length 0 0),.s (.ptr (g.length+1) 0 0),.s (.ptr (g.length+2) 0 0),.s (.ptr (g.length+3) 0 0),.s (.ptr (g.length+4) 0 0),.s (.ptr (g.length+5) 0 0)]) (by simp) (zih e.s c y c2 y2 n) (zl9 h.app hI (a:=g.length) (b1:=g.length+1) (b2:=g.length+2) (b3:=g.length+3) (b4:=g.length+4) (b5:=g.length+5) (by simp) (by simp) (by simp) (by simp) (by simp) (by simp))) (fun x hx e=> .inr e) ?_;rintro u g' ⟨rfl,hE,hS⟩;simp;exact zak hE hS h.lt (by simp) fun G h1 h2=>hΨ _ _ ⟨rfl,h2,h1⟩
def zbD(s:Sta)(r:Int):Int×Sta:=if zn r then(0,{s with judge:=r}) else(1,s)
theorem zqC{g:XH}{o:Eo}{e:Ent}(h:EntP g o e){a b:Nat}{n:Int}(ha:g[a]? =some (.own 0 45 1 [.ptr o.i 0 0]))(hb:g[b]? =some (.own 0 3 1 [xi n])):Cl C (fun x=>x∈o.ids) 146 [.s (.ptr b 0 0),.s (.ptr a 0 0)] g fun u g'=>u=fi (zbD e.s n).1∧EntP g' o {e with s:=(zbD e.s n).2}∧Sam (fun x=>x∈o.ids) g g':=by
 have hP:=h;obtain⟨nd,⟨w,wf,junk,h0,hi,hc,hf⟩,hst,hr⟩:=h;have li:=zf hi;have la:=zf ha;have lb:=zf hb;refine Cl.ip rfl (zuF rfl) fun Ψ hΨ=> ?_;simp[hi,li,ha,la,hb,lb];refine zb.pure (Zc ..) ?_;simp;refine zc (fun c1=> ?_) (fun c1=> ?_)
 ·simp[hi,li,ha,la,hb,lb];have hS:=hP.setS hi {e.s with judge:=n} rfl rfl;have e1:zbD e.s n=(0,{e.s with judge:=n}):=by simp[zbD,c1]
  exact⟨.inr (by simp[Eo.ids]),Gh.here (hΨ _ _ (by rw[e1];exact⟨rfl,hS,Sam.set (by simp[Eo.ids]) _⟩))⟩
 ·simp;exact Gh.here (hΨ _ _ (by simp only[zbD,c1,if_false,zva];exact⟨trivial,hP,Sam.refl⟩))
theorem znw{g:XH}{o:Eo}{e:Ent}(h:EntP g o e)(hL:StaL e.first e.touched)(n:Int):Cl C (fun x=>x∈o.ids) 73 [.s (.ptr o.i 0 0),fi n] g fun u g'=>u=fi (zA e (zbD e.s n)).1∧EntP g' o (zA e (zbD e.s n)).2∧Sam (fun x=>x∈o.ids) g g':=by refine Cl.ip rfl (zuF rfl) fun Ψ hΨ=> ?_;simp;refine zb.go (ZJ (g:=g++[.own 0 45 1 [.ptr o.i 0 0],.own 0 3 1 [xi n],.clo 146 [] [.s (.ptr (g.length+1) 0 0),.s (.ptr g.length 0 0)]]) h.app hL (k:=g.length+2) (f:=146) (a:=[]) (b:=[.s (.ptr (g.length+1) 0 0),.s (.ptr g.length 0 0)]) (by simp) (zbD e.s n) (zqC h.app (a:=g.length) (b:=g.length+1) (by simp) (by simp))) (fun x hx e=> .inr e) ?_;rintro u g' ⟨rfl,hE,hS⟩;simp;exact zak hE hS h.lt (by simp) fun G h1 h2=>hΨ _ _ ⟨rfl,h2,h1⟩
def zbq(s:Sta)(m l:Int):Int×Sta:=if zay m l then(0,{s with cap:=m,life:=l}) else(1,s)
theorem zsL{g:XH}{o:Eo}{e:Ent}(h:EntP g o e){a b c:Nat}{m l:Int}(ha:g[a]? =some (.own 0 45 1 [.ptr o.i 0 0]))(hb:g[b]? =some (.own 0 3 1 [xi m]))(hc':g[c]? =some (.own 0 3 1 [xi l])):Cl C (fun x=>x∈o.ids) 147 [.s (.ptr b 0 0),.s (.ptr c 0 0),.s (.ptr a 0 0)] g fun u g'=>u=fi (zbq e.s m l).1∧EntP g' o {e with s:=(zbq e.s m l).2}∧Sam (fun x=>x∈o.ids) g g':=by
 have hP:=h;obtain⟨nd,⟨w,wf,junk,h0,hi,hc,hf⟩,hst,hr⟩:=h;have li:=zf hi;have la:=zf ha;have lb:=zf hb;have lc:=zf hc';refine Cl.ip rfl (zuF rfl) fun Ψ hΨ=> ?_;simp[hi,li,ha,la,hb,lb,hc',lc];refine zb.pure (zsf ..) ?_;simp;refine zc (fun c1=> ?_) (fun c1=> ?_)
 ·simp;have na:¬a=o.i:=by rintro rfl;rw[hi] at ha;simp at ha
  have nb:¬b=o.i:=by rintro rfl;rw[hi] at hb;simp at hb
  have nc:¬c=o.i:=by rintro rfl;rw[hi] at hc';simp at hc'
  refine zdf 4 8 [0,1,2] (fun x=>x=o.i) (by decide) (by decide) (by decide) ?_;simp only[zu3,zvs,zvd,zu8];simp[hi,li,ha,la,hb,lb,hc',lc,na,nb,nc,Ne.symm na,Ne.symm nb,Ne.symm nc];have hS:=hP.setS hi {e.s with cap:=m,life:=l} rfl rfl;have e1:zbq e.s m l=(0,{e.s with cap:=m,life:=l}):=by simp[zbq,c1]
  exact⟨.inr (by simp[Eo.ids]),Gh.here (hΨ _ _ (by rw[e1];exact⟨rfl,hS,Sam.set (by simp[Eo.ids]) _⟩))⟩
 ·simp;exact Gh.here (hΨ _ _ (by simp only[zbq,c1,if_false,zva];exact⟨trivial,hP,Sam.refl⟩))
theorem zqk{g:XH}{o:Eo}{e:Ent}(h:EntP g o e)(hL:StaL e.first e.touched)(m l:Int):Cl C (fun x=>x∈o.ids) 74 [.s (.ptr o.i 0 0),fi m,fi l] g fun u g'=>u=fi (zA e (zbq e.s m l)).1∧EntP g' o (zA e (zbq e.s m l)).2∧Sam (fun x=>x∈o.ids) g g':=by refine Cl.ip rfl (zuF rfl) fun Ψ hΨ=> ?_;simp;refine zb.go (ZJ (g:=g++[.own 0 45 1 [.ptr o.i 0 0],.own 0 3 1 [xi m],.own 0 3 1 [xi l],.clo 147 [] [.s (.ptr (g.length+1) 0 0),.s (.ptr (g.length+2) 0 0),.s (.ptr g.length 0 0)]]) h.app hL (k:=g.length+3) (f:=147) (a:=[]) (b:=[.s (.ptr (g.length+1) 0 0),.s (.ptr (g.length+2) 0 0),.s (.ptr g.length 0 0)]) (by simp) (zbq e.s m l) (zsL h.app (a:=g.length) (b:=g.length+1) (c:=g.length+2) (by simp) (by simp) (by simp))) (fun x hx e=> .inr e) ?_;rintro u g' ⟨rfl,hE,hS⟩;simp;exact zak hE hS h.lt (by simp) fun G h1 h2=>hΨ _ _ ⟨rfl,h2,h1⟩
theorem idxI{g:XH}{v:XV}{l:List Int}(hr:RdX g 3 1 zY v l)(hl:l.length≤100000)(p:Int):Cl C (fun _=>False) 271 [.s v,fi p] g fun u g'=>u=fi (ym (fun x=>x==p) 0 l)∧g'=g:=by
 refine Cl.ip rfl (zuF rfl) fun Ψ hΨ=> ?_;simp[hr.len];refine Lp.genU (σ:=Unit) l.length (fun k _=>[(8,fi k)]) (fun _ _=>g) (fun k _=>ym (fun x=>x==p) k (l.drop k)=ym (fun x=>x==p) 0 l) () (by decide) rfl (by simp) rfl rfl ?_ ?_
 ·rintro q hq ⟨⟩ hi hlt N hN;obtain⟨p2,cs2,o2,c1,c2,c3,c4⟩:=hr.at1 zG (k:=q) hq;rw[zvq hq,ym] at hi;simp[l271_0,hq,c1,c2,c3,c4,zY];refine zc (fun hc=> ?_) (fun hc=> ?_)
  ·simp at hc;simp;exact Gh.here (hΨ _ _ ⟨by rw[zuO (by simp[←hc])] at hi;rw[←hi],rfl⟩)
  ·simp at hc;rw[zuQ (by simpa using fun e=>hc e.symm)] at hi;simp[yN hq (by omega)];exact qJ () hN hi (by simp) (by simpa using hlt)
 ·rintro⟨⟩ hi;rw[zwL (zuL _),ym] at hi;simp[l271_0];exact Gh.here (hΨ _ _ ⟨by rw[←hi],rfl⟩)
theorem conI{g:XH}{v:XV}{l:List Int}(hr:RdX g 3 1 zY v l)(hl:l.length≤100000)(p:Int):Cl C (fun _=>False) 214 [.s v,fi p] g fun u g'=>u=fb (l.contains p)∧g'=g:=by
 refine Cl.ip rfl (zuF rfl) fun Ψ hΨ=> ?_;simp;refine zb.go0 (idxI hr hl p) ?_;simp;refine Gh.here (hΨ _ _ ⟨?_,rfl⟩);have h1:=zbu (fun x=>x==p) 0 l;have h2:l.any (fun x=>x==p)=l.contains p:=by rw[List.contains_eq_any_beq];congr 1;funext x;exact Bool.beq_comm
 rw[h2] at h1;cases h:l.contains p with
 |true=>simp[h1.2 h]
 |false=>
  have:¬ym (fun x=>x==p) 0 l≥0:=fun h'=>by rw[h1.1 h'] at h;cases h
  simp;omega
def qS(e:Ent)(p:Int):Option Pro:=if p<e.first then none else(e.cs[(p-e.first).toNat]?).map (·.p)
def zfd(q:Option Pro):XF:= .tup [.agg (zF (q.getD zr)),fb q.isSome]
theorem subX{X cs:List XV}{o z a n:Nat}(h:(X.drop o).take z=cs)(hn:a+n≤z):(X.drop (o+a)).take n=(cs.drop a).take n:=by subst h;rw[zw0,zwI,zvu (by omega),zwZ]
theorem znb{l:List Clo}{junk:List XV}{q:Nat}(h:q<l.length):q*50+50≤(l.flatMap yH++junk).length∧((l.flatMap yH++junk).drop (q*50)).take 50=yH l[q]:=by
 have h1:(l.flatMap yH).length=l.length*50:=zg zag l;obtain⟨a1,a2,_⟩:=atX zag h;have h2:q*50+50≤l.length*50:=by omega
 refine⟨by rw[zuM];omega,?_⟩;rw[zxv (by omega),zwX (by rw[zvQ];omega)];exact a2
theorem cloP(c:Clo):((yH c).drop 8).take 41=zF c.p:=by have h:=YY c.p;show(zF c.p++[xi c.seq]).take 41=_;rw[zwX (by omega),zvA (by omega)]
theorem cloC(c:Clo):((yH c).drop 25).take 8=zj c.p.cl:=by simp[yH,zF,pC,zT,zj,zD]
set_option maxRecDepth 8000 in
theorem Y0{g:XH}{o:Eo}{e:Ent}(h:EntP g o e)(hL:EntL e)(p:Int)(hp:p≤9223372036854775807):Cl C (fun _=>False) 32 [.s (.ptr o.i 0 0),fi p] g fun u g'=>u=zfd (qS e p)∧g'=g:=by
 obtain⟨nd,⟨w,wf,junk,h0,hi,hc,hf⟩,hst,hr⟩:=h;have li:=zf hi;have lc:=zf hc;have hfs:=hL.st.p;simp[zm] at hfs;refine Cl.ip rfl (zuF rfl) fun Ψ hΨ=> ?_;simp[hi,li];have bad:∀J,qS e p=none→Gh (fun _=>False) g Ψ (.tup [.agg YS,fb false]) (g++J):=fun J h=>Gh.pure (.t2 (.agg zkp) (.s (.lt (by simp)))) (hΨ _ _ ⟨by rw[h];rfl,rfl⟩);refine zc (fun c1=> ?_) (fun c1=> ?_)
 ·simp at c1;simp;exact bad _ (by simp[qS,c1])
 simp at c1;obtain⟨q,hq⟩:∃q:Nat,p-e.first=(q:Int):=⟨(p-e.first).toNat,by omega⟩
 have hw:IntKind.i64.wrap (p-e.first)=(q:Int):=by rw[hq];exact ze (by omega) (by omega)
 have hP:qS e p=(e.cs[q]?).map (·.p):=by simp[qS,show¬p<e.first by omega,hq]
 simp[hw,hi,li];refine zc (fun c2=> ?_) (fun c2=> ?_)
 ·simp at c2;simp;exact bad _ (by rw[hP];simp[c2])
 simp at c2;obtain⟨x1,x2⟩:=znb (junk:=junk) c2;obtain⟨hc1,_,hc2,hc3,_⟩:=hL.cs _ (zvk c2);rw[zuV c2,zvb] at hP;generalize e.cs[q]=c at *;have x3:=subX (a:=8) (n:=41) x2 (by decide);simp only[cloP] at x3;generalize e.cs.flatMap yH++junk=X at *;simp[hi,li,c2,hc,lc,x3,show q*50+8+41≤X.length by omega,show¬X=[] from fun e=>by rw[e] at x1;simp at x1];refine zb.go0 (zos hc1) ?_;simp[zF,pC,zT,zj,zD];exact Gh.pure (u':= .tup [.agg (zF c.p),fb true]) (.t2 (.agg (.lts (QA _ c.p))) (.s (.lt (by simp)))) (hΨ _ _ ⟨by rw[hP];rfl,rfl⟩)
def qH(e:Ent):Bal:=match e.cs.getLast? with
 |some c=>c.p.cl
 |none=>yp
theorem zi9{g:XH}{o:Eo}{e:Ent}(h:EntP g o e)(hL:EntL e):Cl C (fun _=>False) 151 [.s (.ptr o.i 0 0)] g fun u g'=>u= .agg (zj (qH e))∧g'=g:=by
 obtain⟨nd,⟨w,wf,junk,h0,hi,hc,hf⟩,hst,hr⟩:=h;have li:=zf hi;have lc:=zf hc;have hll:=hL.cl;have hlh:=hL.st.hi;refine Cl.ip rfl (zuF rfl) fun Ψ hΨ=> ?_;simp[hi,li];refine zc (fun c1=> ?_) (fun c1=> ?_)
 ·simp at c1;simp;refine zb.go0 zp2 ?_;simp[zj];exact Gh.pure (u':= .agg (zj yp)) (.agg (.lts (Qy _ _))) (hΨ _ _ ⟨by simp[qH,c1],rfl⟩)
 ·simp at c1;have c2:e.cs.length-1<e.cs.length:=by have:=List.length_pos_iff.2 c1;omega
  have e1:qH e=e.cs[e.cs.length-1].p.cl:=by simp[qH,zxf,zuV c2]
  have hw:IntKind.i64.wrap ((e.cs.length:Int)-1)=((e.cs.length-1:Nat):Int):=by rw[ze (by omega) (by omega)];omega
  obtain⟨x1,x2⟩:=znb (junk:=junk) c2;have x3:=subX (a:=25) (n:=8) x2 (by decide);rw[cloC] at x3;rw[←e1] at x3;clear e1 x2;generalize e.cs.flatMap yH++junk=X at *;generalize e.cs.length-1=q at *;simp[zj,hi,li,hc,lc,hw,c2,x3,show q*50+25+8≤X.length by omega,show¬X=[] from fun e=>by rw[e] at x1;simp at x1];exact Gh.pure (u':= .agg (zj (qH e))) (.agg (.lts (Qy _ _))) (hΨ _ _ ⟨rfl,rfl⟩)
def jD(e:Ent)(p n:Int):Int×Sta:=
 match qS e p with
 |none=>(3,e.s)
 |some q=>
  if e.s.filed.contains p then(4,e.s)
  else if(qU n q.rate q.cur.tax).2≠0 then((qU n q.rate q.cur.tax).2,e.s)
  else if(qz e.s.up (qU n q.rate q.cur.tax).1).1≠0 then((qz e.s.up (qU n q.rate q.cur.tax).1).1,e.s)
  else(0,{e.s with up:=(qz e.s.up (qU n q.rate q.cur.tax).1).2,filed:=e.s.filed++[p]})
theorem QJ{e:Ent}{p:Int}{q:Pro}(h:qS e p=some q):∃c∈e.cs,c.p=q:=by
 unfold qS at h;split at h
 ·simp at h
 ·rw[zuI] at h;obtain⟨c,h1,h2⟩:=h;exact⟨c,zvE h1,h2⟩
theorem EntP.setF{g:XH}{o:Eo}{e:Ent}(h:EntP g o e){w wf:Nat}(hi:g[o.i]? =some (.own 0 108 14 (zdi e o w wf)))(s':Sta){p:Int}(hf:s'.filed=e.s.filed++[p])(hr:s'.reg=e.s.reg){G:XH}(h1:G[o.i]? =some (.own 0 108 14 (zdi {e with s:=s'} o w (wf+1))))(h2:G[o.f]? =some (.own (wf+1) 3 1 (s'.filed.flatMap zY)))(hs:Sam (fun x=>x=o.i∨x=o.f) g G):EntP G o {e with s:=s'}:=by
 obtain⟨nd,⟨w',wf',junk,h0,k1,k2,k3⟩,⟨w2,j2,h4,h5,h6⟩,h7⟩:=h;have n:=nd;simp[Eo.ids] at n;have e1:=k1.symm.trans hi;simp at e1;obtain⟨rfl,rfl⟩:wf'=wf∧w'=w:=e1;have h7:g[o.r]? =_:=h7;refine⟨nd,⟨w',wf'+1,junk,h0,h1,?_,h2⟩,⟨w2,j2,h4,?_,?_⟩,?_⟩
 ·rw[hs.same _ (by omega)];exact k2
 ·rw[hs.same _ (by omega)];exact h5
 ·rw[hs.same _ (by omega)];exact h6
 ·show G[o.r]? =_;rw[hs.same _ (by omega),h7];simp only[hr]
theorem zcT(s n:Int):(qz s n).1≠0→(qz s n).2=s:=by
 unfold qz;split
 ·intro _;rfl
 ·split
  ·intro _;rfl
  ·intro h;exact absurd rfl h
set_option maxRecDepth 8000 in
theorem znv{g:XH}{o:Eo}{e:Ent}(h:EntP g o e)(hL:EntL e)(p n:Int)(hp:p≤9223372036854775807):Cl C (fun x=>x∈o.ids) 149 [.s (.ptr o.i 0 0),fi p,fi n] g fun u g'=>u=fi (jD e p n).1∧EntP g' o {e with s:=(jD e p n).2}∧Sam (fun x=>x∈o.ids) g g':=by
 have hP:=h;obtain⟨nd,⟨w,wf,junk,h0,hi,hc,hf⟩,hst,hr⟩:=h;have li:=zf hi;have lf:=zf hf;have hfl:=hL.fl;have hlt:=hP.lt;have nn:=nd;simp[Eo.ids] at nn;refine Cl.ip rfl (zuF rfl) fun Ψ hΨ=> ?_;have bad:∀x J,jD e p n=(x,e.s)→Gh (fun x=>x∈o.ids) g Ψ (fi x) (g++J):=fun x J h=>Gh.pure .i (hΨ _ _ ⟨by rw[h],by rw[h];exact hP,Sam.refl⟩);simp;refine zb.go0 (Y0 hP hL p hp) ?_;rcases hq:qS e p with _|q
 ·simp[zfd,zF,pC,zT,zj,zD];exact bad 3 _ (by simp[jD,hq])
 ·have hq2:jD e p n=if e.s.filed.contains p then(4,e.s)
   else if(qU n q.rate q.cur.tax).2≠0 then((qU n q.rate q.cur.tax).2,e.s)
   else if(qz e.s.up (qU n q.rate q.cur.tax).1).1≠0 then((qz e.s.up (qU n q.rate q.cur.tax).1).1,e.s)
   else(0,{e.s with up:=(qz e.s.up (qU n q.rate q.cur.tax).1).2,filed:=e.s.filed++[p]}):=by
   unfold jD;rw[hq]
  obtain⟨c,hc1,hc2⟩:=QJ hq;have htx:=(hL.cs c hc1).2.2.2.2;rw[hc2] at htx;simp[zfd,zF,pC,zT,zj,zD,hi,li];refine zb.go0 (conI (RdX.sl zG hf).app (by omega) p) ?_;simp;refine zc (fun c1=> ?_) (fun c1=> ?_)
  ·simp at c1;simp;exact bad 4 _ (by rw[hq2,zuO (by simpa using c1)])
  rw[zuQ (by simpa using c1)] at hq2;simp;refine zb.pure (trueX n q.rate q.cur.tax htx) ?_;generalize qU n q.rate q.cur.tax=v at *;obtain⟨v,er⟩:=v;simp;refine zc (fun c2=> ?_) (fun c2=> ?_)
  ·simp at c2;simp;exact bad er _ (by rw[hq2,zuO c2])
  simp at c2;rw[zuQ (by simpa using c2)] at hq2;simp[hi,li];refine zb.go (zi8 (off:=8) (t:=108) (z:=14) (cs:=zdi e o w wf) (by rw[zq li];exact hi) (s:=e.s.up) rfl v) (fun x hx ee=> .inr (by rw[ee];simp[Eo.ids])) ?_;rintro u g' ⟨rfl,rfl⟩;have ha:=zcT e.s.up v;generalize qz e.s.up v=a at *;obtain⟨a1,a2⟩:=a;simp at ha;have hne:¬o.i=o.f:=by omega
  have hne':¬o.f=o.i:=by omega
  simp[li,hi];refine zc (fun c3=> ?_) (fun c3=> ?_)
  ·simp at c3;simp;have e2:=jc hi;simp at e2;rw[ha c3,e2];exact bad a1 _ (by rw[hq2,zuO (by simpa using c3)])
  simp at c3;rw[zuQ (by simpa using c3)] at hq2;simp[li,hi,hf,lf,hne,hne',show(e.s.filed.length+1)*8≤140737488355328 by omega];have hfll:(e.s.filed.flatMap zY).length=e.s.filed.length:=by rw[zg zG,zxS]
  refine⟨.inr (by simp[Eo.ids]),?_⟩;simp[li,lf,hne,hne',hfll];refine⟨.inr (by simp[Eo.ids]),?_⟩;have hS:∀A B D,Sam (fun x=>x=o.i∨x=o.f) g (((g.set o.i A).set o.f B).set o.i D):=fun A B D=>((Sam.set (.inl rfl) _).trans (Sam.set (.inr rfl) _)).trans (Sam.set (.inl rfl) _);have hE:∀A,EntP (((g.set o.i A).set o.f (.own (wf+1) 3 1 (e.s.filed.flatMap zY++[xi p]))).set o.i (.own 0 108 14 (zdi {e with s:={e.s with up:=a2,filed:=e.s.filed++[p]}} o w (wf+1)))) o {e with s:={e.s with up:=a2,filed:=e.s.filed++[p]}}:=fun A=>hP.setF hi {e.s with up:=a2,filed:=e.s.filed++[p]} (p:=p) rfl rfl (zu1 (by simp;exact li)) (by rw[zuR hne,zu1 (by simp;exact lf)];simp) (hS _ _ _);have hS2:∀A B D,Sam (fun x=>x∈o.ids) g (((g.set o.i A).set o.f B).set o.i D):=fun A B D=>(hS A B D).mono fun j hj=>by rcases hj with rfl|rfl<;>simp[Eo.ids]
  have hE2:=hE (.own 0 108 14 (zdi {e with s:={e.s with up:=a2}} o w wf));simp at hE2;refine qZ (hE2.upd (hS2 _ _ _)) (by simp) (hΨ _ _ ⟨by rw[hq2],by rw[hq2];exact hE2,hS2 _ _ _⟩)
theorem zs9{g:XH}{o:Eo}{e:Ent}(h:EntP g o e)(hL:EntL e){a b c:Nat}{p n:Int}(hp:p≤9223372036854775807)(ha:g[a]? =some (.own 0 45 1 [.ptr o.i 0 0]))(hb:g[b]? =some (.own 0 3 1 [xi p]))(hc:g[c]? =some (.own 0 3 1 [xi n])):Cl C (fun x=>x∈o.ids) 148 [.s (.ptr a 0 0),.s (.ptr b 0 0),.s (.ptr c 0 0)] g fun u g'=>u=fi (jD e p n).1∧EntP g' o {e with s:=(jD e p n).2}∧Sam (fun x=>x∈o.ids) g g':=by have la:=zf ha;have lb:=zf hb;have lc:=zf hc;refine Cl.ip rfl (zuF rfl) fun Ψ hΨ=> ?_;simp[ha,la,hb,lb,hc,lc];refine zb.go (znv h hL p n hp) (fun x hx e=> .inr e) ?_;rintro u g' ⟨rfl,h1,h2⟩;simp;exact Gh.here (hΨ _ _ ⟨rfl,h1,h2⟩)
theorem zql{g:XH}{o:Eo}{e:Ent}(h:EntP g o e)(hL:EntL e)(t:XV)(p n:Int)(hp:p≤9223372036854775807):Cl C (fun x=>x∈o.ids) 75 [.s (.ptr o.i 0 0),.s t,fi p,fi n] g fun u g'=>u=fi (zA e (jD e p n)).1∧EntP g' o (zA e (jD e p n)).2∧Sam (fun x=>x∈o.ids) g g':=by refine Cl.ip rfl (zuF rfl) fun Ψ hΨ=> ?_;simp;refine zb.go (ZJ (g:=g++[.own 0 45 1 [.ptr o.i 0 0],.own 0 3 1 [xi p],.own 0 3 1 [xi n],.clo 148 [] [.s (.ptr g.length 0 0),.s (.ptr (g.length+1) 0 0),.s (.ptr (g.length+2) 0 0)]]) h.app hL.st (k:=g.length+3) (f:=148) (a:=[]) (b:=[.s (.ptr g.length 0 0),.s (.ptr (g.length+1) 0 0),.s (.ptr (g.length+2) 0 0)]) (by simp) (jD e p n) (zs9 h.app hL (a:=g.length) (b:=g.length+1) (c:=g.length+2) hp (by simp) (by simp) (by simp))) (fun x hx e=> .inr e) ?_;rintro u g' ⟨rfl,hE,hS⟩;simp;exact zak hE hS h.lt (by simp) fun G h1 h2=>hΨ _ _ ⟨rfl,h2,h1⟩
theorem zfs{l:List Vi}(hI:LosI l)(book perm moved cap life year r:Int){res:Res}{left:List Vi}(h:Zz l book perm moved cap life year r=(0,res,left)):res.vec.length≤12∧za res.tax=true:=by
 unfold Zz at h;split at h
 ·simp at h
 rename_i k1;split at h
 ·simp at h
 rename_i k2;have hr:zn r=true:=by
  cases hh:zn r with
  |true=>rfl
  |false=>exact absurd (.inr (.inl (by simp[hh]))) k1
 simp[zn] at hr;have hk:=hI.kept year;have hkl:=hk.len;have hnm:za (book+perm-moved)=true:=by simp[Jv,Jw] at k2;rw[zw2,zxR];exact k2.2.2.2.2
 generalize book+perm-moved=n at *;have hroom:=Qh n cap hnm;have h0:za (zd 0 r)=true:=by have:=Qe (n:=0) (r:=r) (by omega) (by omega);simp[za];omega
 simp only at h;split at h
 ·rename_i hn;have hv3:=YR year (yD year l) (jE n cap);have hv2:=zbi year (yD year l) (jE n cap) hroom.1 (fun v hv=>(hk.m v hv).1);have h3:=hroom.2.2 (by omega);simp only[zuH,true_and] at h;obtain⟨rfl,rfl⟩:=h;refine⟨by simp only;omega,?_⟩;simp[za] at hnm;have:=Qe (n:=n-(qd year (jE n cap) (yD year l)).sum) (r:=r) (by omega) (by omega);simp[za];omega
 ·split at h
  ·split at h
   ·simp only[zuH,true_and] at h;obtain⟨rfl,rfl⟩:=h;exact⟨by simp,h0⟩
   ·rename_i hh;simp only[zuH] at h;exact absurd h.1 hh
  ·simp only[zuH,true_and] at h;obtain⟨rfl,rfl⟩:=h;exact⟨by simp,h0⟩
theorem zdP(l:List Li):(jB l).length≤7:=by unfold jB;refine zvz (zv6 _ _) ?_;simp
theorem zdM(t:List Rw)(inp:Inp){op:Bal}(hop:BalL op){l:List Vi}(hI:LosI l){rows:List Bu}(hrl:rows.length≤400)(he:(jw t inp op l rows).1=0):(ProC (jw t inp op l rows).2.1∧ProL (jw t inp op l rows).2.1∧za (jw t inp op l rows).2.1.cur.tax=true)∧(qa (jw t inp op l rows).2.1).length≤1000∧LosI (jw t inp op l rows).2.2:=by
 suffices h:∀m,jw t inp op l rows=m→m.1=0→(ProC m.2.1∧ProL m.2.1∧za m.2.1.cur.tax=true)∧LosI m.2.2 by
  obtain⟨h1,h2⟩:=h _ rfl he;refine⟨h1,?_,h2⟩;unfold qa;split
  ·have:=zdP (Y7 (jw t inp op l rows).2.1);omega
  ·simp
 intro m hm h0;unfold jw at hm;split at hm
 ·subst hm;simp at h0
 split at hm
 ·subst hm;simp at h0
 rename_i r hr;split at hm
 ·subst hm;simp at h0
 split at hm
 ·subst hm;simp at h0
 rename_i rates hrt;have hl1:=ZV _ _ _ _ _ hrt;rw[zu9] at hl1;have hf:=Zu op.b rows;have hob:=hop.lb;simp only at hm;split at hm
 ·rename_i hne;subst hm;exact absurd h0 hne
 rename_i ht;simp only[ne_eq,Decidable.not_not] at ht;obtain⟨res,left,htx⟩:∃res left,Zz l inp.book inp.perm (J7 (zv op.b rows)) inp.cap inp.life (inp.p.tdiv 4) r=(0,res,left):=⟨_,_,by rw[←ht]⟩
 have hleft:=zk4 hI _ _ _ _ _ _ _ htx;obtain⟨hv,htax⟩:=zfs hI _ _ _ _ _ _ _ htx;rw[htx] at hm;simp only at hm;split at hm
 ·rename_i hne;subst hm;exact absurd h0 hne
 split at hm
 ·rename_i hne;subst hm;exact absurd h0 hne
 split at hm
 ·rename_i hne;subst hm;exact absurd h0 hne
 split at hm
 ·subst hm;simp at h0
 rename_i now hnow;have hl2:=ZV _ _ _ _ _ hnow;rw[zu9] at hl2;split at hm
 ·rename_i hne;subst hm;exact absurd h0 hne
 split at hm
 ·subst hm;refine⟨⟨⟨hop,⟨by simp only;omega,by simp only;omega⟩,by simp only;omega,by simp only;omega,by simp only;omega⟩,⟨by simp only;omega,by simp only;omega,by simp only;omega,hop,⟨by simp only;omega,by simp only;omega⟩⟩,htax⟩,hleft⟩
 ·subst hm;simp at h0
theorem qw.old{g:XH}{i k:Nat}{l:List Jo}(h:qw g i k l){n:Nat}(hk:k<n):∀j,j=i∨j=k→∀x:XO,g[j]? =some x→lvO n x:=by
 obtain⟨w,h1,h2⟩:=h;rintro j (rfl|rfl) x hx
 ·rw[h1] at hx;cases hx;simp[lvO,hk]
 ·rw[h2] at hx;cases hx;simp[lvO]
theorem qw.sam{g G:XH}{i k:Nat}{l:List Jo}(h:qw g i k l)(h1:G[i]? =g[i]?)(h2:G[k]? =g[k]?):qw G i k l:=by obtain⟨w,a,b⟩:=h;exact⟨w,by rw[h1];exact a,by rw[h2];exact b⟩
theorem Sam.app{S:Nat→Prop}{g G:XH}(h:Sam S g G)(J:XH):Sam S (g++J) (G++J):=by
 refine⟨by simp[h.len],fun j hj=> ?_⟩;by_cases hl:j<g.length
 ·rw[zuK hl,zuK (by rw[h.len];exact hl),h.same j hj]
 ·have hgl:=h.len;rw[zuN (by omega),zuN (by omega),hgl]
abbrev esS(o:Eo)(si sk:Nat):Nat→Prop:=fun x=>x∈o.ids∨x=si∨x=sk
theorem zsh{W:Nat→Prop}{g J g':XH}{o:Eo}{e:Ent}{si sk:Nat}{js:List Jo}{u:XF}{Ψ:XF→XH→Prop}(h:EntP g' o e)(h2:qw g' si sk js)(hs:Sam (esS o si sk) (g++J) g')(hl:∀i∈o.ids,i<g.length)(l2:si<g.length)(l3:sk<g.length)(hu:lvF g.length u)(hp:∀G,Sam (esS o si sk) g G→EntP G o e→qw G si sk js→Ψ u G):Gh W g Ψ u g':=by
 obtain⟨G,rfl,h1⟩:=hs.cut (fun j hj=>hj.elim (hl j) fun hj=>hj.elim (fun e=>e▸l2) (fun e=>e▸l3));have k1:EntP G o e:=h.same fun i hi=>(zq (by rw[h1.len];exact hl i hi)).symm;have k2:qw G si sk js:=h2.sam (zq (by rw[h1.len];exact l2)).symm (zq (by rw[h1.len];exact l3)).symm;refine qZ (S:=esS o si sk) ⟨h1.len,h1.same,fun j x hx=> ?_⟩ hu (hp G h1 k1 k2);by_cases hj:esS o si sk j
 ·rcases hj with hj|hj
  ·exact .inr (k1.old hl j hj x hx)
  ·exact .inr (k2.old l3 j hj x hx)
 ·rw[h1.same j hj] at hx;exact .inl hx
theorem ziv{g:XH}{i k:Nat}{l:List Jo}(h:qw g i k l)(hne:i≠k)(hl:StoL l)(id:ByteArray)(p kind of:Int){v:XV}{ls:List Li}(hr:v=zjm ls)(hls:ls.length≤1000):Cl C (fun x=>x=i∨x=k) 152 [.s (.ptr i 0 0),fs id,fi p,fi kind,fi of,.s v] g fun u g'=>u= .tup [fi (jf l id p kind of ls).1,fi (jf l id p kind of ls).2.1]∧qw g' i k (jf l id p kind of ls).2.2∧Sam (fun x=>x=i∨x=k) g g':=by
 have li:i<g.length:=by obtain⟨w,h1,_⟩:=h;exact zf h1
 have lk:k<g.length:=by obtain⟨w,_,h1⟩:=h;exact zf h1
 refine(zrn h hne hl id p kind of hr hls).mono ?_;rintro u g' ⟨rfl,w,rfl⟩;refine⟨rfl,⟨w,?_,?_⟩,(Sam.set (.inr rfl) _).trans (Sam.set (.inl rfl) _)⟩
 ·unfold zjZ;rw[zu1 (by simp;exact li)]
 ·unfold zjZ;rw[zuR hne,zu1 lk]
noncomputable def yv(t:List Rw)(js:List Jo)(e:Ent):Int×Ent×List Jo:=
 if¬zm (yE e.first e.touched)=true then(8,e,js)
 else
  let m:=jw t ⟨e.j,yE e.first e.touched,e.s.book,e.s.perm,e.s.judge,e.s.cap,e.s.life,e.s.up⟩ (qH e) e.s.l (zt ltB e.s.reg)
  if m.1≠0 then(m.1,e,js)
  else
   let q:=jf js e.id (yE e.first e.touched) 1 0 (qa m.2.1)
   if q.2.1≠0 then(q.2.1,e,q.2.2)
   else(0,{e with s:={e.s with book:=0,perm:=0,up:=0,l:=m.2.2},cs:=e.cs++[⟨e.s,m.2.1,q.1⟩],touched:=e.touched++[false]},q.2.2)
theorem zl3:BalL yp:=⟨by simp[yp],by simp[yp]⟩
theorem zcG{e:Ent}(hL:EntL e):BalL (qH e):=by
 unfold qH;split
 ·rename_i c h;exact(hL.cs c (zxy h)).1.cl
 ·exact zl3
theorem EntP.setC{G:XH}{o:Eo}{e:Ent}(h:EntP G o e){w wf:Nat}(hi:G[o.i]? =some (.own 0 108 14 (zdi e o w wf)))(s':Sta)(hf:s'.filed=e.s.filed)(hr:s'.reg=e.s.reg)(c:Clo):EntP ((G.set o.c (.own (w+1) 159 50 ((e.cs++[c]).flatMap yH))).set o.i (.own 0 108 14 (zdi {e with s:=s',cs:=e.cs++[c]} o (w+1) wf))) o {e with s:=s',cs:=e.cs++[c]}:=by
 obtain⟨nd,⟨w',wf',junk,h0,h1,h2,h3⟩,⟨w2,j2,h4,h5,h6⟩,h7⟩:=h;have n:=nd;simp[Eo.ids] at n;have li:=zf hi;have lc:=zf h2;have e1:=h1.symm.trans hi;simp at e1;obtain⟨rfl,rfl⟩:wf'=wf∧w'=w:=e1;have h7:G[o.r]? =_:=h7;refine⟨nd,⟨w'+1,wf',[],fun m=>by simp[zw],zu1 (by simp;exact li),?_,?_⟩,⟨w2,j2,h4,?_,?_⟩,?_⟩
 ·rw[zuR (by omega),zu1 lc,zvl]
 ·rw[zuR (by omega),zuR (by omega)];simp only[hf];exact h3
 ·rw[zuR (by omega),zuR (by omega)];exact h5
 ·rw[zuR (by omega),zuR (by omega)];exact h6
 ·show(List.set _ _ _)[o.r]? =_;rw[zuR (by omega),zuR (by omega),h7];simp only[hr]
set_option maxRecDepth 8000 in
theorem znu{g:XH}{o:Eo}{e:Ent}(h:EntP g o e)(hL:EntL e){ti tk:Nat}{t:List Rw}(ht:Yc 145 140 g ti tk t)(htl:t.length≤1000){si sk:Nat}{js:List Jo}(hs:qw g si sk js)(hsl:StoL js)(hne:si≠sk)(hd:si∉o.ids∧sk∉o.ids):
 Cl C (esS o si sk) 76 [.s (.ptr o.i 0 0),.s (.ptr ti 0 0),.s (.ptr si 0 0)] g fun u g'=>u=fi (yv t js e).1∧EntP g' o (yv t js e).2.1∧qw g' si sk (yv t js e).2.2∧Sam (esS o si sk) g g':=by
 have hP:=h;obtain⟨nd,⟨w,wf,junk,h0,hi,hc,hf⟩,hst,hr⟩:=h;have li:=zf hi;have hlt:=hP.lt;have lsi:si<g.length:=by obtain⟨w,h1,_⟩:=hs;exact zf h1
 have lsk:sk<g.length:=by obtain⟨w,_,h1⟩:=hs;exact zf h1
 have lti:ti<g.length:=by obtain⟨w,h1,_⟩:=ht;exact zf h1
 have nn:=nd;simp[Eo.ids] at nn;refine Cl.ip rfl (zuF rfl) fun Ψ hΨ=> ?_;simp[hi,li];refine zb.go0 (zcL hst hL.st) ?_;cases hp:zm (yE e.first e.touched) with
 |false=>
  simp;exact Gh.here (hΨ _ _ (by simp only[yv,hp];exact⟨rfl,hP,hs,Sam.refl⟩))
 |true=>
  generalize hop:yE e.first e.touched=p at *
  simp[hi,li]
  have hcl:yv t js e=if(jw t ⟨e.j,p,e.s.book,e.s.perm,e.s.judge,e.s.cap,e.s.life,e.s.up⟩ (qH e) e.s.l (zt ltB e.s.reg)).1≠0 then((jw t ⟨e.j,p,e.s.book,e.s.perm,e.s.judge,e.s.cap,e.s.life,e.s.up⟩ (qH e) e.s.l (zt ltB e.s.reg)).1,e,js)
   else
    let m:=jw t ⟨e.j,p,e.s.book,e.s.perm,e.s.judge,e.s.cap,e.s.life,e.s.up⟩ (qH e) e.s.l (zt ltB e.s.reg);let q:=jf js e.id p 1 0 (qa m.2.1)
    if q.2.1≠0 then(q.2.1,e,q.2.2)
    else(0,{e with s:={e.s with book:=0,perm:=0,up:=0,l:=m.2.2},cs:=e.cs++[⟨e.s,m.2.1,q.1⟩],touched:=e.touched++[false]},q.2.2):=by
   unfold yv;rw[hop,zuQ (by simp[hp])]
  refine zz 13 [0,9] (fun _=>False) (by decide) (by decide) ?_;simp only[zu3,zvs,zvd,zu8];simp[hi,li];refine zb.go0 (zi9 hP.app hL) ?_;simp[hi,li];have hM:=fun G (h1:Yc 145 140 G ti tk t) (h2:YB G o.r e.s.reg)=>zq5 h1 htl ⟨e.j,p,e.s.book,e.s.perm,e.s.judge,e.s.cap,e.s.life,e.s.up⟩ (zcG hL) hL.lo h2 hL.rl hL.rd;have hok:=zdM t ⟨e.j,p,e.s.book,e.s.perm,e.s.judge,e.s.cap,e.s.life,e.s.up⟩ (zcG hL) hL.lo (rows:=zt ltB e.s.reg) (by rw[zJ];exact hL.rl);generalize jw t ⟨e.j,p,e.s.book,e.s.perm,e.s.judge,e.s.cap,e.s.life,e.s.up⟩ (qH e) e.s.l (zt ltB e.s.reg)=m at *;obtain⟨er,x,ls⟩:=m;refine zb.go0 (hM _ ht.app hr.app) ?_;simp[zkC,zF,pC,zT,zj,zD];refine zc (fun c1=> ?_) (fun c1=> ?_)
  ·simp at c1;simp;rw[zuO c1] at hcl;exact Gh.pure .i (hΨ _ _ (by rw[hcl];exact⟨rfl,hP,hs,Sam.refl⟩))
  simp at c1;rw[zuQ (by simpa using c1)] at hcl;obtain⟨hx,hlen,_⟩:=hok c1;subst c1;dsimp only at hcl hx hlen;refine zz 8 [0,10] (fun _=>False) (by decide) (by decide) ?_;simp only[zu3,zvs,zvd,zu8];simp[hi,li];refine zb.go0 (za4 x) ?_;simp[zF,pC,zT,zj,zD];refine zb.go (ziv hs.app hne hsl e.id p 1 0 rfl hlen) (fun z hz ee=>⟨.inr (.inr ee),.inr trivial⟩) ?_;rintro u G ⟨rfl,hG,hS⟩;have hlx:=(YY x)
  have hGl:G.length=g.length+2:=by rw[hS.len];simp
  have hGj:∀j,j<g.length→j≠si→j≠sk→G[j]? =g[j]? :=fun j h1 h2 h3=>by rw[hS.same j (by simp[h2,h3]),zq h1]
  have hGx:G[g.length+1]? =some (.own 0 84 41 (zF x)):=by rw[hS.same _ (by omega)];simp[zF,pC,zT,zj,zD]
  have hGe:∀j∈o.ids,G[j]? =g[j]? :=fun j hj=>hGj j (hlt j hj) (fun ee=>hd.1 (ee▸hj)) (fun ee=>hd.2 (ee▸hj));have hPG:EntP G o e:=hP.same hGe;have hSG:=hS.mono (T:=esS o si sk) fun j ee=> .inr ee;have lGx:g.length+1<G.length:=by omega
  have li':o.i<G.length:=by omega
  have hi':G[o.i]? =_:=(hGe o.i (by simp[Eo.ids])).trans hi;have hc':G[o.c]? =_:=(hGe o.c (by simp[Eo.ids])).trans hc;have hf':G[o.f]? =_:=(hGe o.f (by simp[Eo.ids])).trans hf;have lc':=zf hc';generalize jf js e.id p 1 0 (qa x)=q at *;obtain⟨seq,pe,js'⟩:=q;simp;refine zc (fun c2=> ?_) (fun c2=> ?_)
  ·simp at c2;simp;rw[zuO (by simpa using c2)] at hcl;exact zsh hPG hG hSG hlt lsi lsk (by simp) fun G' h1 h2 h3=>hΨ _ _ (by rw[hcl];exact⟨rfl,h2,h3,h1⟩)
  simp at c2;rw[zuQ (by simpa using c2)] at hcl;refine zz 12 [0,10] (fun _=>False) (by decide) (by decide) ?_;simp only[zu3,zvs,zvd,zu8];simp[hi',li'];refine zb.go0 (zlR e.s (RdX.sl zG hf') hL.fl (by have:=hL.lo.len;omega)) ?_;simp[hGx,lGx,zF,pC,zT,zj,zD];refine zb.go0 (zos hx.1) ?_;have hcll:(e.cs.flatMap yH).length=e.cs.length*50:=zg zag e.cs;obtain⟨X,hX⟩:∃X,X=e.cs.flatMap yH++junk:=⟨_,rfl⟩
  have hXl:X.length=e.cs.length*50+junk.length:=by rw[hX,zuM,hcll]
  have hcut:(if e.cs.length*50=X.length then X else X.take (e.cs.length*50))=e.cs.flatMap yH:=by
   have ee:X.take (e.cs.length*50)=e.cs.flatMap yH:=by rw[hX,←hcll,zv8];rfl
   split
   ·rename_i h;rw[←ee,zvA (by omega)]
   ·exact ee
  rw[←hX] at hc';have hroom:(e.cs.length+1)*536≤140737488355328:=by have:=hL.cl;have:=hL.st.hi;omega
  have hic:¬o.i=o.c:=by omega
  have hci:¬o.c=o.i:=by omega
  simp[zF,pC,zT,zj,zD,hi',li',hc',lc',hcut,hroom,show e.cs.length*50≤X.length by omega];refine⟨.inr (.inl (by simp[Eo.ids])),?_⟩;simp[hi',li',lc',hic,hci];refine⟨.inr (.inl (by simp[Eo.ids])),?_⟩;have hE2:=hPG.setC hi' {e.s with book:=0,perm:=0,up:=0,l:=ls} rfl rfl ⟨e.s,x,seq⟩;have hS2:∀A B,Sam (esS o si sk) G ((G.set o.c A).set o.i B):=fun A B=>(Sam.set (.inl (by simp[Eo.ids])) _).trans (Sam.set (.inl (by simp[Eo.ids])) _);have hst2:∀A B J,JF ((G.set o.c A).set o.i B++J) o.st o.sk e.first e.touched:=fun A B J=>by
   obtain⟨w3,j3,k0,k1,k2⟩:=hPG.st;refine JF.app ⟨w3,j3,k0,?_,?_⟩
   ·rw[zuR (by omega),zuR (by omega)];exact k1
   ·rw[zuR (by omega),zuR (by omega)];exact k2
  have hG2:∀A B J,qw ((G.set o.c A).set o.i B++J) si sk js':=fun A B J=>by
   have q:∀i∈o.ids,i≠si∧i≠sk:=fun i hi'=>⟨fun ee=>hd.1 (ee▸hi'),fun ee=>hd.2 (ee▸hi')⟩
   have q1:=q o.c (by simp[Eo.ids]);have q2:=q o.i (by simp[Eo.ids]);refine qw.app (hG.sam ?_ ?_)
   ·rw[zuR q2.1,zuR q1.1]
   ·rw[zuR q2.2,zuR q1.2]
  simp[yH,zF,pC,zT,zj,zD] at hE2;refine zb.go (zoN (hst2 _ _ _) (by omega) hL.st) (fun z hz ee=> .inr (.inl (by rcases ee with rfl|rfl<;>simp[Eo.ids]))) ?_;rintro u g3 ⟨rfl,hT,hU⟩;simp[zfL,hop,hp] at hT⊢;have hE3:=hE2.app.setSt (t:=e.touched++[false]) (fun j hj h1 h2=>hU.same j (by simp[h1,h2])) hT;have nsi:∀i∈o.ids,si≠i∧sk≠i:=fun i hi'=>⟨fun ee=>hd.1 (ee▸hi'),fun ee=>hd.2 (ee▸hi')⟩
  have q1:=nsi o.st (by simp[Eo.ids]);have q2:=nsi o.sk (by simp[Eo.ids]);have hG3:qw g3 si sk js':=(hG2 _ _ _).sam (hU.same si (by simp[q1.1,q2.1])) (hU.same sk (by simp[q1.2,q2.2]));have hS3:=(((hSG.trans (hS2 _ _)).app _).trans (hU.sam.mono (T:=esS o si sk) fun j ee=> .inl (by rcases ee with rfl|rfl<;>simp[Eo.ids])))
  rw[zvc] at hS3;refine zsh hE3 hG3 hS3 hlt lsi lsk (by simp) fun G' h1 h2 h3=>hΨ _ _ (by rw[hcl];exact⟨rfl,h2,h3,h1⟩)
end
end Go.Proofs.YtdmcfjkgopmlgaaGreatDoor.Ev.CA

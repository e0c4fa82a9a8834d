import Derived.Test.YtdmcfjkgopmlgaaGreatDoorM6
set_option linter.unusedVariables false
set_option linter.unusedSimpArgs false
set_option linter.unusedSectionVars false
namespace Go.Proofs.YtdmcfjkgopmlgaaGreatDoor.Ev
open Go Ieee
theorem znj(way:Toward)(neg:Bool)(n:Nat):way.cut neg n 0=n:=by unfold Toward.cut;simp only[Nat.zero_min,Nat.shiftLeft_zero,Nat.div_one,Nat.mod_one];cases way<;>simp
theorem zlv(way:Toward)(neg:Bool)(n d:Nat)(h:n≠0):way.cut neg (n*2^d) d=n:=by
 unfold Toward.cut;have hl:(n*2^d).log2=n.log2+d:=by rw[Nat.log2_eq_iff (by have:=zwD d;exact zxu h (by omega))];have h1:=zx2 h;have h2:=zx3 (n:=n);rw[zwM,show n.log2+d+1=(n.log2+1)+d by omega,zwM];exact⟨zvr _ h1,zxc h2 (zwD d)⟩
 have hm:min d ((n*2^d).log2+2)=d:=by omega
 simp only[hm,Nat.one_shiftLeft,Nat.mul_div_cancel _ (zwD d),Nat.mul_mod_left];have:0<2^d:=zwD d;cases way<;>simp<;>omega
theorem zqL(n k:Nat)(h:n≠0):(n*2^k).log2=n.log2+k:=by rw[Nat.log2_eq_iff (by have:=zwD k;exact zxu h (by omega))];have h1:=zx2 h;have h2:=zx3 (n:=n);rw[zwM,show n.log2+k+1=(n.log2+1)+k by omega,zwM];exact⟨zvr _ h1,zxc h2 (zwD k)⟩
def rg(n:Nat):Nat:=if n=0 then 0 else(n.log2+1022)*2^52+n*2^(52-n.log2)
theorem zjh{n:Nat}(h0:n≠0)(h:n<2^53):n.log2≤52:=by have:=(Nat.log2_lt h0).2 h;omega
theorem zb1{n:Nat}(h0:n≠0)(h:n<2^53):2^52≤n*2^(52-n.log2)∧n*2^(52-n.log2)<2^53:=by
 have hl:=zjh h0 h;have h1:=zx2 h0;have h2:=zx3 (n:=n);have e:2^n.log2*2^(52-n.log2)=2^52:=by rw[←zwM];congr 1;omega
 have e2:2^(n.log2+1)*2^(52-n.log2)=2^53:=by rw[←zwM];congr 1;omega
 rw[←e,←e2];exact⟨zvr _ h1,zxc h2 (zwD _)⟩
theorem zdK{n:Nat}(h:n<2^53)(k:Nat):Format.nearest double false (n*2^k) (-(k:Int))=rg n:=by
 unfold Format.nearest rg;by_cases h0:n=0
 ·subst h0;simp[Format.word]
 ·have hl:=zjh h0 h;have hk:=zb1 h0 h;have hne:n*2^k≠0:=zxu h0 (by have:=zwD k;omega);rw[zuU hne,zuU h0,zqL n k h0];have hlp:double.leastPlace= -1074:=by decide
  have hfb:(double.fractionBits:Int)=52:=rfl;have hlast:max (-(k:Int)+((n.log2+k:Nat):Int)-double.fractionBits) (-1074)=(n.log2:Int)-52:=by rw[hfb];omega
  simp only[hlp,hlast];have hb:double.binade=2^52:=by decide
  have hi:double.infRung=2047*2^52:=by decide
  have hcut:Toward.even.cut false ((n*2^k)<<<(-(k:Int)-((n.log2:Int)-52)).toNat) ((n.log2:Int)-52- -(k:Int)).toNat=n*2^(52-n.log2):=by
   by_cases c:k≤52-n.log2
   ·have e1:(-(k:Int)-((n.log2:Int)-52)).toNat=52-n.log2-k:=by omega
    have e2:((n.log2:Int)-52- -(k:Int)).toNat=0:=by omega
    rw[e1,e2,znj,Nat.shiftLeft_eq,zxt,←zwM];congr 2;omega
   ·have e1:(-(k:Int)-((n.log2:Int)-52)).toNat=0:=by omega
    have e2:((n.log2:Int)-52- -(k:Int)).toNat=k-(52-n.log2):=by omega
    rw[e1,e2,Nat.shiftLeft_zero];have e3:n*2^k=n*2^(52-n.log2)*2^(k-(52-n.log2)):=by rw[zxt,←zwM];congr 2;omega
    rw[e3,zlv _ _ _ _ (by omega)]
  rw[hcut,hb,hi];have e4:((n.log2:Int)-52- -1074).toNat=n.log2+1022:=by omega
  have hw:∀r,double.word false r=r:=fun r=>zuU (by decide);rw[e4,hw,zvA]
  ·have h1:(n.log2+1022)*2^52≤1074*2^52:=zvr _ (by omega);exact zvB (Nat.add_le_add h1 (Nat.le_of_lt hk.2)) (by decide)
def fl(n:Nat):Nat:=FloatKind.f64.nearest (n:Int)
theorem zeL{n:Nat}(h:n<2^53):fl n=rg n:=by
 have:=zdK h 0;simp only[Nat.pow_zero,zxX] at this;unfold fl FloatKind.nearest FloatKind.encode FloatKind.format Format.write;have e:decide ((n:Int)<0)=false:=by simp
 simp only[e,Int.natAbs_natCast];exact this
theorem zcz{n:Nat}(h:n<2^53):∃m k:Nat,double.read (rg n)= .number false m (-(k:Int))∧m=n*2^k:=by
 have hb:double.binade=2^52:=by decide
 have hi:double.infRung=2047*2^52:=by decide
 have hs:double.signWeight=2^63:=by decide
 have hlp:double.leastPlace= -1074:=by decide
 unfold Format.read rg;rw[hs,hb,hi,hlp];by_cases h0:n=0
 ·subst h0;have key:∀k:Nat,(0:Nat)=0*2^k:=fun k=>(zv1 _).symm;exact⟨0,1074,by simp,key 1074⟩
 ·have hl:=zjh h0 h;have hk:=zb1 h0 h;rw[zuU h0];obtain⟨q,hq⟩:∃q,q=n*2^(52-n.log2):=⟨_,rfl⟩
  rw[←hq] at hk⊢;obtain⟨e,he⟩:∃e,e=n.log2:=⟨_,rfl⟩
  rw[←he] at hl hq⊢;have hlt:(e+1022)*2^52+q<2^63:=by omega
  have h1:((e+1022)*2^52+q)/2^63=0:=Nat.div_eq_of_lt hlt;have h2:((e+1022)*2^52+q)%2^63=(e+1022)*2^52+q:=zx4 hlt;simp only[h1,h2];rw[zuU (by omega),zuS (by omega)];have h3:((e+1022)*2^52+q)%2^52=q-2^52:=by omega
  have h4:((e+1022)*2^52+q)/2^52=e+1023:=by omega
  refine⟨q,52-e,?_,hq⟩;rw[h3,h4];have h5:2^52+(q-2^52)=q:=by omega
  rw[h5];have h6:(-1074+((e+1023-1:Nat):Int))= -((52-e:Nat):Int):=by omega
  rw[h6];rfl
theorem zfl(m k:Nat):signed false m k=((m*2^k:Nat):Int):=by unfold signed;simp[Nat.shiftLeft_eq]
theorem znC{n m:Nat}(h:n+m<2^53):FloatKind.f64.format.add (fl n) (fl m)=some (fl (n+m)):=by
 rw[zeL (n:=n) (by omega),zeL (n:=m) (by omega),zeL h];obtain⟨a,k,e1,rfl⟩:=zcz (n:=n) (by omega);obtain⟨b,j,e2,rfl⟩:=zcz (n:=m) (by omega);show Option.map double.write ((double.read (rg n)).sum (double.read (rg m)))=_;rw[e1,e2];unfold Datum.sum;simp only[zfl];obtain⟨t,ht⟩:∃t,t=max k j:=⟨_,rfl⟩
 have hbase:min (-(k:Int)) (-(j:Int))= -(t:Int):=by omega
 rw[hbase];have c1:(-(k:Int)- -(t:Int)).toNat=t-k:=by omega
 have c2:(-(j:Int)- -(t:Int)).toNat=t-j:=by omega
 rw[c1,c2];have d1:n*2^k*2^(t-k)=n*2^t:=by rw[zxt,←zwM];congr 2;omega
 have d2:m*2^j*2^(t-j)=m*2^t:=by rw[zxt,←zwM];congr 2;omega
 rw[d1,d2,←zww,←zvF];have hneg:(if(((n+m)*2^t:Nat):Int)=0 then false&&false else decide ((((n+m)*2^t:Nat):Int)<0))=false:=by
  split
  ·rfl
  ·rw[zv5];omega
 rw[hneg,Int.natAbs_natCast];simp only[zve,Format.write];rw[zdK h]
theorem znD{n m:Nat}(hn:n<2^53)(hm:m<2^53):(FloatKind.f64.format.order (fl n) (fl m)==some .eq)=decide (n=m):=by
 rw[zeL hn,zeL hm];obtain⟨a,k,e1,rfl⟩:=zcz hn;obtain⟨b,j,e2,rfl⟩:=zcz hm;show((double.read (rg n)).order (double.read (rg m))==some .eq)=_;rw[e1,e2];unfold Datum.order;simp only[zfl];obtain⟨t,ht⟩:∃t,t=max k j:=⟨_,rfl⟩
 have hbase:min (-(k:Int)) (-(j:Int))= -(t:Int):=by omega
 rw[hbase];have c1:(-(k:Int)- -(t:Int)).toNat=t-k:=by omega
 have c2:(-(j:Int)- -(t:Int)).toNat=t-j:=by omega
 rw[c1,c2];have d1:n*2^k*2^(t-k)=n*2^t:=by rw[zxt,←zwM];congr 2;omega
 have d2:m*2^j*2^(t-j)=m*2^t:=by rw[zxt,←zwM];congr 2;omega
 rw[d1,d2];by_cases e:n=m
 ·subst e;rw[zv8 rfl];simp[compare,compareOfLessAndEq]
 ·rw[zv5 e];have hne:((n*2^t:Nat):Int)≠((m*2^t:Nat):Int):=by
   intro he;exact e (Nat.eq_of_mul_eq_mul_right (zwD t) (by omega))
  simp only[compare,compareOfLessAndEq];split
  ·rfl
  ·first
    |rfl
    |(rw[zuU hne];rfl)
theorem zcn:fl 0=0:=by rw[zeL (by omega)];rfl
abbrev cx(d c:Nat):SV:= .cpl .f64 (fl d) (fl c)
theorem zqe{a b c d:Nat}(h1:a+c<9007199254740992)(h2:b+d<9007199254740992):zbV .add (fl a) (fl b) (fl c) (fl d)=some (cx (a+c) (b+d)):=by unfold zbV;rw[znC h1,znC h2]
theorem zqt{a b:Nat}(h1:a<9007199254740992)(h2:b<9007199254740992):zbY .eql (fl a) (fl b)=some (.bool (decide (a=b))):=by unfold zbY;rw[znD h1 h2]
end Go.Proofs.YtdmcfjkgopmlgaaGreatDoor.Ev
namespace Go.Proofs.YtdmcfjkgopmlgaaGreatDoor.Ev.CA
open Go
section
attribute [-simp] List.length_flatMap getElem?_pos
def ziK:List ByteArray:=[⟨#[]⟩,⟨#[99,117,114,114,101,110,116]⟩,⟨#[112,97,121,97,98,108,101]⟩,⟨#[100,101,102,101,114,114,101,100]⟩,⟨#[116,101,109,112]⟩,⟨#[108,111,115,115,101,115]⟩,⟨#[97,108,108,111,119,97,110,99,101]⟩,⟨#[116,114,117,101,117,112]⟩]
abbrev Jv(s:ByteArray):List XV:=[xs s]
theorem zhd(s:ByteArray):(Jv s).length=1:=rfl
@[simp] theorem encS_lvs(m:Nat)(l:List ByteArray):zt m (l.flatMap Jv):=zP (fun a=>by simp[Jv]) l
theorem zcT{g:XH}:Cl C (fun _=>False) 174 [] g fun u g'=>u= .s (.lst 9 1 8 (ziK.flatMap Jv))∧g'=g:=by refine Cl.ip rfl (zuI rfl) fun Ψ hΨ=> ?_;simp[rep];exact Gh.pure (u':= .s (.lst 9 1 8 (ziK.flatMap Jv))) (.s (.fl (l:=ziK) (t:=9) zhd (fun m a=>by simp[Jv]) (zuO _) (by simp[ziK,Jv]))) (hΨ _ _ ⟨rfl,rfl⟩)
def Yc(n:Int):Bool:=decide (1≤n∧n≤7)
theorem zkj(n:Int):Pure C 175 [fi n] (fb (Yc n)):=by
 refine Pure.intro0 (e:=e175) rfl (zuI rfl) (by simp) fun g Ψ h0 hJ=> ?_;simp
 repeat' first|(refine zc (fun hc=> ?_) (fun hc=> ?_)<;>try simp)
 all_goals(simp at *;exact qV h0 (by simp[Yc, *]<;>omega))
def zeX(a:Int):ByteArray:=if 1≤a∧a≤7 then ziK.getD a.toNat ⟨#[]⟩ else⟨#[]⟩
theorem zn8(a:Int):(zeX a).size=0↔¬(1≤a∧a≤7):=by
 unfold zeX;split
 ·rename_i h;have:a=1∨a=2∨a=3∨a=4∨a=5∨a=6∨a=7:=by omega
  rcases this with rfl|rfl|rfl|rfl|rfl|rfl|rfl<;>simp[ziK]<;>decide
 ·rename_i h;exact⟨fun _=>h,fun _=>rfl⟩
theorem zlo{g:XH}(a:Int):Cl C (fun _=>False) 350 [fi a] g fun u g'=>u=fs (zeX a)∧g'=g:=by
 refine Cl.ip rfl (zuI rfl) fun Ψ hΨ=> ?_;simp;refine zb.pure (zkj ..) ?_;simp;refine zc (fun h=> ?_) (fun h=> ?_)
 ·simp[Yc] at h;simp;refine zb.go0 zcT ?_;have:a=1∨a=2∨a=3∨a=4∨a=5∨a=6∨a=7:=by omega
  rcases this with rfl|rfl|rfl|rfl|rfl|rfl|rfl<;>simp[ziK,Jv]<;>exact Gh.here (hΨ _ _ ⟨rfl,rfl⟩)
 ·simp[Yc] at h;simp;exact Gh.here (hΨ _ _ ⟨by simp[zeX,show¬(1≤a∧a≤7) by omega],rfl⟩)
def zam(k:Nat):List Int:=((List.range k).filter fun j=>decide (1≤j)).map fun(j:Nat)=>(j:Int)
theorem zlj(k:Nat):zam (k+1)=if 1≤k then zam k++[(k:Int)] else zam k:=by
 unfold zam;rw[zxL,zwx,zvs];split
 ·rename_i h;simp[h]
 ·rename_i h;simp[h]
theorem zmX(k:Nat):(zam k).length≤k:=by unfold zam;have:=zwa (fun j=>decide (1≤j)) (List.range k);simp at this⊢;omega
def zeh:List Int:=[1,2,3,4,5,6,7]
theorem QP{g:XH}:Cl C (fun _=>False) 102 [] g fun u g'=>u= .s (Yt zeh)∧g'=g:=by
 refine Cl.ip rfl (zuI rfl) fun Ψ hΨ=> ?_;simp;refine zb.go0 zcT ?_;simp;refine Lp.genG 3 1 (σ:=Nat) 8 (fun k w=>[(1,.s (.sl g.length w 0 (zam k).length)),(5,fi k)]) (fun k w=>g++[.own w 3 1 ((zam k).flatMap zR)]) (fun _ _=>True) 0 (by decide) rfl (by simp[GhF,zam]) (by simp[zam]) trivial ?_ ?_
 ·rintro q hq w _ hlt N hN;have hl:=zmX q;have hfl:((zam q).flatMap zR).length=(zam q).length:=by rw[zf zG];omega
  rw[zlj] at hN;generalize zam q=A at *;simp[l102_0,show(q:Int)<8 by omega];refine zb.pure (zkj ..) ?_;simp;by_cases h1:1≤q
  ·rw[zuS h1] at hN;simp[show Yc q=true by simp[Yc];omega,hfl,show(A.length+1)*8≤140737488355328 by omega,yr hq (by omega)];exact yL (fun fr g'=>hN (w+1) fr g' trivial) (by simp) (by simp) (by simp) (by simp[lvO])
  ·rw[zuU h1] at hN;simp[show Yc q=false by simp[Yc];omega,yr hq (by omega)];exact yL (fun fr g'=>hN w fr g' trivial) rfl (by simp) (by simp) (by simp[lvO])
 ·rintro w _;have e:zam 8=zeh:=by decide
  rw[e];simp[l102_0];exact Gh.pure (.s (.fl (t:=3) zG (fun m a=>by simp[zR]) (zuO _) (by simp))) (hΨ _ _ ⟨rfl,rfl⟩)
def ofC(n:Int):Nat×Nat:=if za n then(if n >0 then(n.toNat,0) else(0,(-n).toNat)) else(0,0)
theorem ze2(n:Int):(ofC n).1≤100000000000∧(ofC n).2≤100000000000:=by
 unfold ofC;split
 ·rename_i h;simp[za] at h;split<;>simp<;>omega
 ·simp
theorem zeY{n:Int}(h:0≤n):FloatKind.f64.nearest n=fl n.toNat:=by unfold fl;rw[zxK h]
abbrev xc(p:Nat×Nat):XV:= .v (cx p.1 p.2)
theorem zrp(n:Int):Pure C 351 [fi n] (.s (xc (ofC n))):=by
 refine Pure.intro0 (e:=e351) rfl (zuI rfl) (by simp[cx]) fun g Ψ h0 hJ=> ?_;simp;refine zb.pure (z7 ..) ?_;simp;refine zc (fun k1=> ?_) (fun k1=> ?_)
 ·simp;refine zc (fun k2=> ?_) (fun k2=> ?_)
  ·simp at k2;simp;exact qV h0 (by simp[ofC,k1,k2,zeY (n:=n) (by omega),cx,zcn])
  ·simp at k2;have w:IntKind.i64.wrap (-n)= -n:=by
    simp[za] at k1;exact ze (by omega) (by omega)
   simp[w];exact qV h0 (by simp[ofC,k1,show¬0<n by omega,zeY (n:= -n) (by omega),cx,zcn])
 ·simp;exact qV h0 (by simp[ofC,k1,cx,zcn])
def y9(x:Li):List XV:=[xi x.a,xi x.n]
theorem yF(x:Li):(y9 x).length=2:=rfl
@[simp] theorem zaB(x:Li)(m:Nat):zt m (y9 x):=by simp[y9]
@[simp] theorem znp(m:Nat)(l:List Li):zt m (l.flatMap y9):=zP (fun a=>zaB a m) l
abbrev zem(l:List Li):XV:= .lst 189 2 l.length (l.flatMap y9)
abbrev encC(p:Nat×Nat):List XV:=[xc p]
theorem zc6(p:Nat×Nat):(encC p).length=1:=rfl
@[simp] theorem znm(m:Nat)(l:List (Nat×Nat)):zt m (l.flatMap encC):=zP (fun a=>by simp[encC]) l
def s1C(l:List (Nat×Nat)):Nat:=(l.map (·.1)).sum
def s2C(l:List (Nat×Nat)):Nat:=(l.map (·.2)).sum
theorem zrm(l:List (Nat×Nat))(k:Nat)(hk:k<l.length):s1C (l.take (k+1))=s1C (l.take k)+l[k].1∧s2C (l.take (k+1))=s2C (l.take k)+l[k].2:=by unfold s1C s2C;rw[zu0 hk,zvs,zvs,zwY,zwY];exact⟨rfl,rfl⟩
theorem zoG:∀(l:List (Nat×Nat)),(∀p∈l,p.1≤100000000000∧p.2≤100000000000)→s1C l≤100000000000*l.length∧s2C l≤100000000000*l.length
 |[],_=>by simp[s1C,s2C]
 |p::l,h=>by have h1:=zoG l fun q hq=>h q (by simp[hq]);have h2:=h p (by simp);simp only[s1C,s2C,zu6,zwt,zvw] at h1⊢;omega
theorem zoK{g:XH}{v:XV}{l:List (Nat×Nat)}(hr:RdX g 379 1 encC v l)(hl:l.length≤1000)(hb:∀p∈l,p.1≤100000000000∧p.2≤100000000000):Cl C (fun _=>False) 352 [.s v] g fun u g'=>u= .s (xc (s1C l,s2C l))∧g'=g:=by
 refine Cl.ip rfl (zuI rfl) fun Ψ hΨ=> ?_;simp[hr.len];refine Lp.genU (σ:=Unit) l.length (fun k _=>[(3,.s (xc (s1C (l.take k),s2C (l.take k)))),(8,fi k)]) (fun _ _=>g) (fun _ _=>True) () (by decide) rfl (by simp[s1C,s2C,cx,zcn]) rfl trivial ?_ ?_
 ·rintro q hq _ _ hlt N hN;obtain⟨p1,cs,o1,b1,b2,b3,b4⟩:=hr.at1 zc6 hq;obtain⟨e1,e2⟩:=zrm l q hq;have h1:=zoG (l.take q) fun p hp=>hb p (zvV hp);have h2:=hb _ (zvi hq);rw[zu5,zvA (by omega)] at h1;have ha:=zqe (a:=s1C (l.take q)) (b:=s2C (l.take q)) (c:=l[q].1) (d:=l[q].2) (by omega) (by omega);rw[←e1,←e2] at ha;simp[l352_0,hq,b1,b2,b3,b4,encC,cx,ha,yr hq (by omega)];exact qh () hN trivial (by simp[cx]) (by simpa using hlt)
 ·rintro _ _;rw[zu9];simp[l352_0];exact Gh.here (hΨ _ _ ⟨rfl,rfl⟩)
theorem zmo{a b:Nat}(ha:a≤4000000000000000)(hb:b≤4000000000000000):Pure C 330 [.s (xc (a,b))] (fb (decide (a=b))):=by refine Pure.intro0 (e:=e330) rfl (zuI rfl) (by simp) fun g Ψ h0 hJ=> ?_;have h:=zqt (a:=a) (b:=b) (by omega) (by omega);simp[cx,h];exact h0
theorem zge{g:XH}{v:XV}{l:List Li}(hr:RdX g 189 2 y9 v l)(hl:l.length≤1000):Cl C (fun _=>False) 331 [.s v] g fun u g'=>u= .s (xc (s1C (l.map fun x=>ofC x.n),s2C (l.map fun x=>ofC x.n)))∧g'=g:=by
 refine Cl.ip rfl (zuI rfl) fun Ψ hΨ=> ?_;simp[hr.len];refine Lp.genG 379 1 (σ:=Nat) l.length (fun k w=>[(3,.s (.sl g.length w 0 k)),(8,fi k)]) (fun k w=>g++[.own w 379 1 (((l.take k).map fun x=>ofC x.n).flatMap encC)]) (fun _ _=>True) 0 (by decide) rfl (by simp[GhF]) (by simp) trivial ?_ ?_
 ·rintro q hq w _ hlt N hN;obtain⟨p1,cs,o1,b1,b2,b3,b4,b5,_⟩:=hr.atJ yF (by decide) hq;have e1:(l.take (q+1)).map (fun x=>ofC x.n)=(l.take q).map (fun x=>ofC x.n)++[ofC l[q].n]:=by rw[zu0 hq,zvs];rfl
  have hfl:(((l.take q).map fun x=>ofC x.n).flatMap encC).length=q:=by rw[zf zc6];simp;omega
  have hlF:∀m,zt m (((l.take q).map fun x=>ofC x.n).flatMap encC):=fun m=>znm m _;rw[e1,zvp] at hN;generalize((l.take q).map fun x=>ofC x.n).flatMap encC=F at *;simp[l331_0,hq,b3,b4,b5,y9];refine zb.pure (zrp ..) ?_;simp[hfl,show(q+1)*16≤140737488355328 by omega,yr hq (by omega)];exact yL (fun fr g'=>hN (w+1) fr g' trivial) (by simp[encC]) (by simp) (by simpa using hlt) (by simp[lvO,hlF,encC,cx])
 ·rintro w _;rw[zu9];simp[l331_0];have hs:=RdX.sl (g:=g++[.own w 379 1 ((l.map fun x=>ofC x.n).flatMap encC)]) (i:=g.length) (w:=w) (t:=379) zc6 (l:=l.map fun x=>ofC x.n) (by simp);rw[zvb] at hs;refine zb.go0 (zoK hs (by simp;omega) fun p hp=>by
   obtain⟨x,_,rfl⟩:=zv2.1 hp;exact ze2 _) ?_
  simp;exact Gh.pure (.s (.lt (by simp[cx]))) (hΨ _ _ ⟨rfl,rfl⟩)
def zgA(x:Li):Bool:=Yc x.a&&(x.n !=0&&za x.n)
theorem zlY(x:Li){g:XH}:Cl C (fun _=>False) 329 [.agg (y9 x)] g fun u g'=>u=fb (zgA x)∧g'=g:=by
 refine Cl.ip rfl (zuI rfl) fun Ψ hΨ=> ?_;simp[y9];refine zb.go0 (zlo x.a) ?_;have h1:=zn8 x.a;have hn:(zeX x.a).toList.isEmpty= !Yc x.a:=by
  rw[ye];by_cases hs:(zeX x.a).size=0
  ·have:=h1.1 hs;rw[zv8 hs];simp[Yc];omega
  ·have:1≤x.a∧x.a≤7:=Classical.byContradiction fun h=>hs (h1.2 h);rw[zv5 hs];simp[Yc,this]
 simp[hn]
 repeat' first|(refine zc (fun hc=> ?_) (fun hc=> ?_)<;>try simp)|(refine zb.pure (z7 ..) ?_;try simp)
 all_goals(refine Gh.pure .b (hΨ _ _ ⟨?_,rfl⟩);simp[zgA, *])
 all_goals(simp at *;simp[*])
theorem qs:∀(l:List Li) (a:Int),jD a l=true→∀x∈l,za x.n=true
 |[],_,_,x,hx=>by simp at hx
 |y::l,a,h,x,hx=>by
  simp only[jD,zuR] at h;rcases zu2.1 hx with rfl|hx
  ·exact h.1.2.2
  ·exact qs l _ h.2 x hx
theorem zoi{n:Int}(h:za n=true):((ofC n).1:Int)-(ofC n).2=n:=by unfold ofC;rw[zuS h];split<;>simp<;>omega
theorem zk0:∀(l:List Li),(∀x∈l,za x.n=true)→((s1C (l.map fun x=>ofC x.n):Nat):Int)-(s2C (l.map fun x=>ofC x.n):Nat)=(l.map (·.n)).sum
 |[],_=>by simp[s1C,s2C]
 |x::l,h=>by have h1:=zk0 l fun y hy=>h y (by simp[hy]);have h2:=zoi (h x (by simp));simp only[s1C,s2C,zu6,zwt] at h1⊢;omega
theorem zaM{g:XH}{v:XV}{l:List Li}(hr:RdX g 189 2 y9 v l)(hl:l.length≤1000):Cl C (fun _=>False) 293 [.s v] g fun u g'=>u=fi (if yu l then 0 else 2)∧g'=g:=by
 refine Cl.ip rfl (zuI rfl) fun Ψ hΨ=> ?_;simp[hr.len];refine zc (fun h1=> ?_) (fun h1=> ?_)
 ·simp at h1⊢;exact Gh.here (hΨ _ _ ⟨by simp[yu,show¬l.length≤20 by omega],rfl⟩)
 simp at h1;simp[hr.len];have bad:∀J,jD 0 l=false→Gh (fun _=>False) g Ψ (fi 2) (g++J):=fun J h=>Gh.pure .i (hΨ _ _ ⟨by simp[yu,h],rfl⟩);refine Lp.genU (σ:=Int) l.length (fun k s=>[(3,fi s),(11,fi k)]) (fun _ _=>g) (fun k s=>0≤s∧jD 0 l=jD s (l.drop k)) 0 (by decide) rfl (by simp) rfl (by simp) ?_ ?_
 ·rintro q hq s ⟨hs,hP⟩ hlt N hN;obtain⟨p1,cs,o1,b1,b2,b3,b4,b5,_⟩:=hr.atJ yF (by decide) hq;rw[zvq hq,jD] at hP;have hlr:=fun g=>zlY (g:=g) l[q];simp[y9] at hlr;simp[l293_0,hq,b1,b2,b4,b5,y9];refine zb.go0 (hlr _) ?_;simp;refine zc (fun k1=> ?_) (fun k1=> ?_)
  rotate_left
  ·simp;refine bad _ (by rw[hP];simp[zgA,Yc] at k1⊢;intro a b;by_cases h:1≤l[q].a∧l[q].a≤7<;>simp_all<;>omega)
  simp;refine zc (fun k2=> ?_) (fun k2=> ?_)
  ·simp at k2⊢;refine bad _ (by rw[hP];simp;omega)
  simp at k2;simp[yr hq (by omega)];refine J4 l[q].a hN ⟨by omega,?_⟩ (by simp) (by simpa using hlt);rw[hP];simp[zgA,Yc] at k1;simp[k1,k2]
 ·rintro s ⟨hs,hP⟩;rw[zx0] at hP;have hall:jD 0 l=true:=hP;have hm:=qs l 0 hall;have hd:=zk0 l hm;have hb:=zoG (l.map fun x=>ofC x.n) fun p hp=>by
   obtain⟨x,_,rfl⟩:=zv2.1 hp;exact ze2 _
  rw[zvb] at hb;have hsum:yu l=decide (s1C (l.map fun x=>ofC x.n)=s2C (l.map fun x=>ofC x.n)):=by
   unfold yu;rw[hall,zv8 (show l.length≤20 by omega),zxJ,zxJ,←hd];by_cases h:s1C (l.map fun x=>ofC x.n)=s2C (l.map fun x=>ofC x.n)
   ·rw[zv8 h,h];simp
   ·rw[zv5 h];simp;omega
  have hS:=zge hr hl;simp[l293_0];refine zb.go0 hS ?_;clear hS;have hb1:s1C (l.map fun x=>ofC x.n)≤4000000000000000:=by omega
  have hb2:s2C (l.map fun x=>ofC x.n)≤4000000000000000:=by omega
  generalize s1C (l.map fun x=>ofC x.n)=d at *;generalize s2C (l.map fun x=>ofC x.n)=c at *;have hE:=zmo hb1 hb2;rw[hsum] at hΨ;simp;refine zb.pure hE ?_;simp;refine zc (fun k1=> ?_) (fun k1=> ?_)
  ·simp;exact Gh.here (hΨ _ _ ⟨by rw[k1];rfl,rfl⟩)
  ·simp;exact Gh.here (hΨ _ _ ⟨by rw[k1];rfl,rfl⟩)
theorem fewP(x:Li)(g:XH):Cl C (fun _=>False) 302 [.agg (y9 x)] g fun u g'=>u=fb (!za x.n)∧g'=g:=by refine Cl.ip rfl (zuI rfl) fun Ψ hΨ=> ?_;simp[y9];refine zb.pure (z7 ..) ?_;simp;exact Gh.pure (.s (.lt (by simp))) (hΨ _ _ ⟨rfl,rfl⟩)
def zaD(l:List Li):Bool:=decide (l.length≤40)&& !(l.any fun x=> !za x.n)
theorem znA{l:List Li}(h:zaD l=true):l.length≤40∧∀x∈l,za x.n=true:=by simp[zaD] at h;exact h
theorem zdw{g:XH}{v:XV}{l:List Li}(hr:RdX g 189 2 y9 v l)(hl:l.length≤100000):Cl C (fun _=>False) 240 [.s v] g fun u g'=>u=fb (zaD l)∧g'=g:=by
 refine Cl.ip rfl (zuI rfl) fun Ψ hΨ=> ?_;simp[hr.len];refine zc (fun h1=> ?_) (fun h1=> ?_)
 ·simp at h1;simp;refine zb.go0 (Qs (f:=301) (fi':=333) (q:=fun x=> !za x.n) rfl rfl yF (by decide) hr (by omega) (.inl ⟨_,rfl,fun x _=>fewP x _⟩)) ?_;simp;exact Gh.here (hΨ _ _ ⟨by simp[zaD,show l.length≤40 by omega],rfl⟩)
 ·simp at h1;simp;exact Gh.here (hΨ _ _ ⟨by simp[zaD,show¬l.length≤40 by omega],rfl⟩)
theorem zmr(a:Int)(l:List Li){k:Nat}(hk:k<l.length):ji (l.take (k+1)) a=if l[k].a=a then ji (l.take k) a+l[k].n else ji (l.take k) a:=by
 unfold ji;rw[zu0 hk,zwx,zvs,zwY];split
 ·rename_i h;simp[h]
 ·rename_i h;simp[h]
theorem zgK(a:Int):∀(l:List Li),(∀x∈l,za x.n=true)→-(100000000000*(l.length:Int))≤ji l a∧ji l a≤100000000000*(l.length:Int)
 |[],_=>by simp[ji]
 |x::l,h=>by
  have h1:=zgK a l fun y hy=>h y (by simp[hy]);have h2:=h x (by simp);simp only[za,zuX] at h2;unfold ji at h1⊢;by_cases hx:x.a=a
  ·rw[List.filter_cons_of_pos (by simp[hx])];simp only[zu6,zwt,zvw,zww,zw8];omega
  ·rw[List.filter_cons_of_neg (by simp[hx])];simp only[zvw,zww,zw8];omega
theorem zdx{g:XH}{v:XV}{l:List Li}(hr:RdX g 189 2 y9 v l)(hf:zaD l=true)(a:Int):Cl C (fun _=>False) 241 [.s v,fi a] g fun u g'=>u=fi (ji l a)∧g'=g:=by
 obtain⟨hl,hm⟩:=znA hf;refine Cl.ip rfl (zuI rfl) fun Ψ hΨ=> ?_;simp[hr.len];refine Lp.genU (σ:=Unit) l.length (fun k _=>[(5,fi (ji (l.take k) a)),(10,fi k)]) (fun _ _=>g) (fun k s=>True) () (by decide) rfl (by simp[ji]) rfl trivial ?_ ?_
 ·rintro q hq _ _ hlt N hN;obtain⟨p1,cs,o1,b1,b2,b3,b4,b5,_⟩:=hr.atJ yF (by decide) hq;have hb:=zgK a (l.take q) fun x hx=>hm x (zvV hx);rw[zu5,zvA (by omega)] at hb;have hx:=hm _ (zvi hq);have hs:=zmr a l hq;simp[l241_0,hq,b1,b2,b4,b5,y9];refine zc (fun k1=> ?_) (fun k1=> ?_)
  ·simp at k1;rw[zuS k1] at hs;have hw:IntKind.i64.wrap (ji (l.take q) a+l[q].n)=ji (l.take (q+1)) a:=by
    simp[za] at hx;rw[hs];exact ze (by omega) (by omega)
   simp[hw,yr hq (by omega)];exact J4 () hN trivial (by simp) (by simpa using hlt)
  ·simp at k1;rw[zuU k1] at hs;simp[yr hq (by omega)];exact J4 () hN trivial (by simp[hs]) (by simpa using hlt)
 ·rintro _ _;rw[zu9];simp[l241_0];exact Gh.here (hΨ _ _ ⟨rfl,rfl⟩)
theorem zjg{g:XH}{v:XV}{l:List Li}(hr:RdX g 189 2 y9 v l)(hl:l.length≤100000)(a:Int):Cl C (fun _=>False) 176 [.s v,fi a] g fun u g'=>u=fi (if zaD l then ji l a else 0)∧g'=g:=by
 refine Cl.ip rfl (zuI rfl) fun Ψ hΨ=> ?_;simp;refine zb.go0 (zdw hr hl) ?_;simp;refine zc (fun k1=> ?_) (fun k1=> ?_)
 ·simp;refine zb.go0 (zdx hr k1 a) ?_;simp;exact Gh.here (hΨ _ _ ⟨by simp[k1],rfl⟩)
 ·simp;exact Gh.here (hΨ _ _ ⟨by simp[k1],rfl⟩)
def qZ(l:List Li)(k:Nat):List Li:=((List.range k).map fun(j:Nat)=>(⟨(j:Int)+1,ji l ((j:Int)+1)⟩:Li)).filter fun x=>x.n !=0
theorem zhJ(l:List Li)(k:Nat):qZ l (k+1)=if ji l ((k:Int)+1)=0 then qZ l k else qZ l k++[⟨(k:Int)+1,ji l ((k:Int)+1)⟩]:=by
 unfold qZ;rw[zxL,zvs,zwx];split
 ·rename_i h;simp[h]
 ·rename_i h;simp[h]
theorem zjp(l:List Li)(k:Nat):(qZ l k).length≤k:=by unfold qZ;have:=zwa (fun x:Li=>x.n !=0) ((List.range k).map fun(j:Nat)=>(⟨(j:Int)+1,ji l ((j:Int)+1)⟩:Li));rw[zvb,zxz] at this;exact this
theorem zgd{g:XH}{v:XV}{l:List Li}(hr:RdX g 189 2 y9 v l)(hl:l.length≤100000):Cl C (fun _=>False) 228 [.s v] g fun u g'=>u= .s (zem (if zaD l then ql l else[]))∧g'=g:=by
 refine Cl.ip rfl (zuI rfl) fun Ψ hΨ=> ?_;simp;refine zb.go0 (zdw hr hl) ?_;simp;refine zc (fun k1=> ?_) (fun k1=> ?_)
 rotate_left
 ·simp;exact Gh.pure0 (u':= .s (.lst 189 2 0 [])) (.s .nil) (hΨ _ _ ⟨by simp[k1],rfl⟩)
 simp;refine zb.go0 QP ?_;have ha:zeh.length=7:=rfl;have haq:∀(q:Nat) (h:q<zeh.length),zeh[q]=(q:Int)+1:=by decide
 simp[ha];refine Lp.genG 189 2 (σ:=Nat) 7 (fun k w=>[(3,.s (.sl g.length w 0 (qZ l k).length)),(12,fi k)]) (fun k w=>g++[.own w 189 2 ((qZ l k).flatMap y9)]) (fun _ _=>True) 0 (by decide) rfl (by simp[GhF,qZ]) (by simp[qZ]) trivial ?_ ?_
 ·rintro q hq w _ hlt N hN;have hml:=zjp l q;have hfl:((qZ l q).flatMap y9).length=(qZ l q).length*2:=zf yF _;rw[zhJ] at hN;have hqa:q<zeh.length:=by rw[ha];exact hq
  have e:=JP hqa;rw[haq q hqa] at e;have e2:=haq q hqa;generalize qZ l q=M at *;simp[l228_0,show(q:Int)<7 by omega,hq,hqa,e];refine zb.go0 (zdx hr.app k1 ((q:Int)+1)) ?_;simp;refine zc (fun k2=> ?_) (fun k2=> ?_)
  ·simp at k2;rw[zuU k2] at hN;simp[hfl,show(M.length+1)*16≤140737488355328 by omega,yr hq (by omega)];exact yL (fun fr g'=>hN (w+1) fr g' trivial) (by simp[y9]) (by simp) (by simpa using hlt) (by simp[lvO])
  ·simp at k2;rw[zuS k2] at hN;simp[yr hq (by omega)];exact yL (fun fr g'=>hN w fr g' trivial) rfl (by simp) (by simpa using hlt) (by simp[lvO])
 ·rintro w _;simp[l228_0];exact Gh.pure (.s (.fl (t:=189) yF (fun m a=>zaB a m) (zuO _) (by simp))) (hΨ _ _ ⟨by rw[zuS k1];rfl,rfl⟩)
def yc(l:List Li):List Li:=l.map fun x=>⟨x.a,wr (-x.n)⟩
theorem JS{g:XH}{v:XV}{l:List Li}(hr:RdX g 189 2 y9 v l)(hl:l.length≤100000):Cl C (fun _=>False) 156 [.s v] g fun u g'=>u= .s (zem (yc l))∧g'=g:=by
 refine Cl.ip rfl (zuI rfl) fun Ψ hΨ=> ?_;simp[hr.len];refine Lp.genG 189 2 (σ:=Nat) l.length (fun k w=>[(3,.s (.sl g.length w 0 k)),(8,fi k)]) (fun k w=>g++[.own w 189 2 ((yc (l.take k)).flatMap y9)]) (fun _ _=>True) 0 (by decide) rfl (by simp[GhF]) (by simp[yc]) trivial ?_ ?_
 ·rintro q hq w _ hlt N hN;obtain⟨p1,cs,o1,b1,b2,b3,b4,b5,_⟩:=hr.atJ yF (by decide) hq;have e1:yc (l.take (q+1))=yc (l.take q)++[⟨l[q].a,wr (-l[q].n)⟩]:=by unfold yc;rw[zu0 hq,zvs];rfl
  have hfl:((yc (l.take q)).flatMap y9).length=q*2:=by rw[zf yF];simp[yc];omega
  have hlF:∀m,zt m ((yc (l.take q)).flatMap y9):=fun m=>znp m _;rw[e1,zvp] at hN;generalize(yc (l.take q)).flatMap y9=F at *;simp[l156_0,hq,b3,b4,b5,y9,hfl,show(q+1)*16≤140737488355328 by omega,yr hq (by omega)];exact yL (fun fr g'=>hN (w+1) fr g' trivial) (by simp[y9]) (by simp) (by simpa using hlt) (by simp[lvO,hlF,y9])
 ·rintro w _;rw[zu9];have hrl:(yc l).length=l.length:=by simp[yc]
  rw[←hrl];simp[l156_0];exact Gh.pure (.s (.fl (t:=189) yF (fun m a=>zaB a m) (zuO _) (by simp))) (hΨ _ _ ⟨rfl,rfl⟩)
def Y1(p:Pro):List Li:=[⟨1,p.cur.tax⟩,⟨7,p.inp.up⟩,⟨2,wr (wr (-p.cur.tax)-p.inp.up)⟩,⟨3,p.deferred⟩,⟨4,wr (p.cl.temp-p.op.temp)⟩,⟨5,wr (p.cl.loss-p.op.loss)⟩,⟨6,wr (p.cl.allow-p.op.allow)⟩]
def j0(p:Pro):List Li:=if zaD (Y1 p) then ql (Y1 p) else[]
set_option maxRecDepth 8000 in
theorem zaW{g:XH}(p:Pro):Cl C (fun _=>False) 153 [.agg (zC p)] g fun u g'=>u= .s (zem (j0 p))∧g'=g:=by refine Cl.ip rfl (zuI rfl) fun Ψ hΨ=> ?_;simp[zC,pC,zQ,zi,zD];refine zy 7 [1] (fun _=>False) (by decide) (by decide) ?_;simp only[zu7,zvC,zvh,zvd];simp;have hq:=fun(G:XH) (i:Nat) (h:G[i]? =some (.own 0 189 2 ((Y1 p).flatMap y9)))=>zgd (g:=G) (RdX.sl yF h) (by simp[Y1]);refine zb.go0 (hq _ (g.length+3) (by simp[Y1,y9])) ?_;simp;exact Gh.pure (.s (.lt (by simp))) (hΨ _ _ ⟨rfl,rfl⟩)
def y6(x:It):List XV:=[xi x.k,xi x.n]
theorem yg(x:It):(y6 x).length=2:=rfl
@[simp] theorem zcm(x:It)(m:Nat):zt m (y6 x):=by simp[y6]
@[simp] theorem zns(m:Nat)(l:List It):zt m (l.flatMap y6):=zP (fun a=>zcm a m) l
abbrev zaN(l:List It):XV:= .lst 43 2 l.length (l.flatMap y6)
def zjY(l:List It):Int:=l.foldl (fun n x=>wr (n+x.n)) 0
theorem zib{g:XH}{v:XV}{l:List It}(hr:RdX g 43 2 y6 v l)(hl:l.length≤1000):Cl C (fun _=>False) 37 [.s v] g fun u g'=>u=fi (zjY l)∧g'=g:=by
 refine Cl.ip rfl (zuI rfl) fun Ψ hΨ=> ?_;simp[hr.len];refine Lp.foldU l (fun k (s:Int)=>[(3,fi s),(8,fi k)]) (fun _ _=>g) (fun n x=>wr (n+x.n)) 0 (by decide) rfl (by simp) rfl ?_ ?_
 ·rintro q hq s hs hlt N hN;obtain⟨p1,cs,o1,b1,b2,b3,b4,b5,_⟩:=hr.atJ yg (by decide) hq;simp[l37_0,hq,b1,b2,b4,b5,y6,yr hq (by omega)];exact Y5 hN (by simp) (by simpa using hlt)
 ·rintro s rfl;simp[l37_0];exact Gh.here (hΨ _ _ ⟨rfl,rfl⟩)
theorem zc0(r:Int):∀(l:List Wa) (s:List Int) (k:Nat) (h1:k<l.length) (h2:k<s.length),jT r (l.take (k+1)) (s.take (k+1))=jT r (l.take k) (s.take k)+(zg l[k].m s[k]-zg l[k].m r)
 |[],_,k,h1,_=>by simp at h1
 |_::_,[],k,_,h2=>by simp at h2
 |b::l,x::s,0,_,_=>by simp[jT]
 |b::l,x::s,k+1,h1,h2=>by simp only[zu7,jT,zwi];rw[zc0 r l s k (by simpa using h1) (by simpa using h2)];omega
theorem zcZ(r:Int):∀(l:List Wa) (s:List Int),-(8000000000002*(l.length:Int))≤jT r l s∧jT r l s≤8000000000002*(l.length:Int)
 |[],_=>by simp[jT]
 |b::l,[]=>by simp[jT];omega
 |b::l,x::s=>by have h1:=zcZ r l s;have h2:=zF b.m x;have h3:=zF b.m r;simp only[jT,zvw,zww,zw8];omega
structure ProL(p:Pro):Prop where
 rows:p.rows.length≤800
 now:p.rows.length=p.now.length
 vec:p.cur.vec.length≤400
 op:BalL p.op
 cl:BalL p.cl
def zgx(p:Pro):Int:=(zg (wr (p.cur.used-p.cur.new)) p.cl.next-zg (wr (p.cur.used-p.cur.new)) p.rate)+jT p.rate p.rows p.now
set_option maxRecDepth 8000 in
theorem zjF{g:XH}{p:Pro}(hp:ProL p):Cl C (fun _=>False) 84 [.agg (zC p)] g fun u g'=>u=fi (zgx p)∧g'=g:=by
 have hrl:=hp.rows;have hnl:=hp.now;refine Cl.ip rfl (zuI rfl) fun Ψ hΨ=> ?_;simp[zC,pC,zQ,zi,zD];refine zb.pure (zm0 ..) ?_;have hb0:=zF (wr (p.cur.used-p.cur.new)) p.cl.next
 have hb1:=zF (wr (p.cur.used-p.cur.new)) p.rate;have h00:zgx p=(zg (wr (p.cur.used-p.cur.new)) p.cl.next-zg (wr (p.cur.used-p.cur.new)) p.rate)+jT p.rate p.rows p.now:=rfl;simp;generalize hB:zg (wr (p.cur.used-p.cur.new)) p.cl.next-zg (wr (p.cur.used-p.cur.new)) p.rate=B at *
 refine Lp.genU (σ:=Unit) p.rows.length (fun k _=>[(3,fi (B+jT p.rate (p.rows.take k) (p.now.take k))),(22,fi k)]) (fun _ _=>g++[.own 0 84 41 (zC p)]) (fun _ _=>True) () (by decide) rfl (by simp[jT]) rfl trivial ?_ ?_
 ·rintro q hq _ _ hlt N hN;obtain⟨a1,a2,_⟩:=atX yl hq;have hqn:q<p.now.length:=by omega
  have e1:=JP hqn;have e2:=zc0 p.rate p.rows p.now q hq hqn;have hb2:=zcZ p.rate (p.rows.take q) (p.now.take q);have hb3:=zF p.rows[q].m p.now[q];have hb4:=zF p.rows[q].m p.rate;rw[zu5,zvA (by omega)] at hb2;have w1:IntKind.i64.wrap (B+jT p.rate (p.rows.take q) (p.now.take q)+(zg p.rows[q].m p.now[q]-zg p.rows[q].m p.rate))=B+jT p.rate (p.rows.take (q+1)) (p.now.take (q+1)):=by rw[e2,ze (by omega) (by omega)];omega
  simp[l84_0,hq,hqn,a1,a2,e1,jE,zC,pC,zQ,zi,zD];refine zb.pure (zm0 ..) ?_;simp[w1,yr hq (by omega)];exact yL (fun fr g'=>hN () fr g' trivial) (by simp[zC,pC,zQ,zi,zD]) (by simp) (by simp) (by simp[lvO])
 ·rintro _ _;rw[zu9,zvE (by omega)];simp[l84_0];exact Gh.pure .i (hΨ _ _ ⟨by rw[h00],rfl⟩)
def YZ(p:Pro):List It:=[⟨1,zg p.inp.book p.rate⟩,⟨2,zg p.inp.perm p.rate⟩,⟨3,zgx p⟩,⟨4,wr (p.tr+p.lr)⟩,⟨5,p.am⟩,⟨6,zg p.cur.expired p.cl.next⟩,⟨7,p.inp.up⟩]
def qj(p:Pro):List It:=YZ p++[⟨8,wr (p.total-zjY (YZ p))⟩]
set_option maxRecDepth 8000 in
theorem zjE{g:XH}{p:Pro}(hp:ProL p):Cl C (fun _=>False) 34 [.agg (zC p)] g fun u g'=>u= .s (zaN (qj p))∧g'=g:=by refine Cl.ip rfl (zuI rfl) fun Ψ hΨ=> ?_;have hR:=fun g:XH=>zjF (g:=g) hp;simp[zC,pC,zQ,zi,zD] at hR⊢;refine zy 38 [1] (fun _=>False) (by decide) (by decide) ?_;simp only[zu7,zvC,zvh,zvd];simp;refine zb.pure (zkQ ..) ?_;simp;refine zb.pure (zkQ ..) ?_;simp;refine zb.go0 (hR _) ?_;simp;refine zb.pure (zkQ ..) ?_;simp;refine zy 5 [1] (fun _=>False) (by decide) (by decide) ?_;simp only[zu7,zvC,zvh,zvd];simp;refine zb.go0 (zib (RdX.sl (l:=YZ p) (i:=g.length+1) (w:=0) yg (by simp[YZ,y6])) (by simp[YZ])) ?_;simp;refine Gh.pure (u':= .s (zaN (qj p))) (.s (.fl (l:=qj p) (t:=43) yg (fun m a=>zcm a m) (by omega) ?_)) (hΨ _ _ ⟨rfl,rfl⟩);simp[qj,YZ,y6]
def JX(n:Int):Bool:=decide (-400000000000≤n∧n≤400000000000)
theorem nearQ(n:Int):Pure C 81 [fi n] (fb (JX n)):=by
 refine Pure.intro0 (e:=e81) rfl (zuI rfl) (by simp) fun g Ψ h0 hJ=> ?_;simp
 repeat' first|(refine zc (fun hc=> ?_) (fun hc=> ?_)<;>try simp)
 all_goals(simp at *;exact qV h0 (by simp[JX, *]<;>omega))
def jq(x:It)(fx:Int):It:=⟨x.k,zg x.n fx⟩
def qL(l:List It):Int:=(l.map (·.n)).sum
def j9(l:List It)(fx:Int):Int×List It×Int:=
 if fx<1∨10000000<fx∨20<l.length then(1,[],0)
 else if¬l.all (fun x=>JX x.n)=true then(1,[],0)
 else if¬J6 (qL l) fx then(1,[],0)
 else(0,l.map fun x=>jq x fx,zg (qL l) fx-qL (l.map fun x=>jq x fx))
theorem zms(l:List It){k:Nat}(hk:k<l.length):qL (l.take (k+1))=qL (l.take k)+l[k].n:=by unfold qL;rw[zu0 hk,zvs,zwY];simp
theorem zoU(l:List It)(x:It):qL (l++[x])=qL l+x.n:=by simp[qL]
theorem zgL(B:Int)(hB:0≤B):∀(l:List It),(∀x∈l,-B≤x.n∧x.n≤B)→-(B*(l.length:Int))≤qL l∧qL l≤B*(l.length:Int):=fun l h=>zbI (fun x:It=>x.n) B hB l h
theorem zlM{g:XH}{v:XV}{l:List It}(hr:RdX g 43 2 y6 v l)(hl:l.length≤1000)(fx:Int):Cl C (fun _=>False) 33 [.s v,fi fx] g fun u g'=>u= .tup [.s (zaN (j9 l fx).2.1),fi (j9 l fx).2.2,fi (j9 l fx).1]∧g'=g:=by
 refine Cl.ip rfl (zuI rfl) fun Ψ hΨ=> ?_;have bad:∀J,j9 l fx=(1,[],0)→Gh (fun _=>False) g Ψ (.tup [.s (.v .nils),fi 0,fi 1]) (g++J):=fun J h=>Gh.pure (u':= .tup [.s (.lst 43 2 0 []),fi 0,fi 1]) (.cons (.s .nil) (.cons .i (.cons .i .nil))) (hΨ _ _ ⟨by rw[h];rfl,rfl⟩);have bad0:j9 l fx=(1,[],0)→Gh (fun _=>False) g Ψ (.tup [.s (.v .nils),fi 0,fi 1]) g:=fun h=>by simpa using bad [] h
 simp[hr.len];refine zc (fun h1=> ?_) (fun h1=> ?_)
 ·simp at h1⊢;exact bad0 (by unfold j9;rw[zuS (.inl h1)])
 simp at h1⊢;refine zc (fun h2=> ?_) (fun h2=> ?_)
 ·simp at h2⊢;exact bad0 (by unfold j9;rw[zuS (.inr (.inl h2))])
 simp at h2;simp[hr.len];refine zc (fun h3=> ?_) (fun h3=> ?_)
 ·simp at h3⊢;exact bad0 (by unfold j9;rw[zuS (.inr (.inr (by omega)))])
 simp at h3
 have e0:j9 l fx=if¬l.all (fun x=>JX x.n)=true then(1,[],0)
  else if¬J6 (qL l) fx then(1,[],0)
  else(0,l.map fun x=>jq x fx,zg (qL l) fx-qL (l.map fun x=>jq x fx)):=by unfold j9;rw[zuU (by omega)]
 simp[hr.len];refine Lp.genG 43 2 (σ:=Nat) l.length (fun k w=>[(7,fi (qL (l.take k))),(8,fi (qL ((l.take k).map fun x=>jq x fx))),(9,.s (.sl g.length w 0 k)),(29,fi k)]) (fun k w=>g++[.own w 43 2 (((l.take k).map fun x=>jq x fx).flatMap y6)]) (fun k _=>(l.take k).all (fun x=>JX x.n)=true) 0 (by decide) rfl (by simp[GhF,qL]) (by simp) (by simp) ?_ ?_
 ·rintro q hq w hP hlt N hN;obtain⟨p1,cs,o1,b1,b2,b3,b4,b5,_⟩:=hr.atJ yg (by decide) hq;have e1:(l.take (q+1)).map (fun x=>jq x fx)=(l.take q).map (fun x=>jq x fx)++[jq l[q] fx]:=by rw[zu0 hq,zvs];rfl
  have e2:=zms l hq;have e3:(l.take (q+1)).all (fun x=>JX x.n)=((l.take q).all (fun x=>JX x.n)&&JX l[q].n):=zap hq;have hb1:=zgL 400000000000 (by omega) (l.take q) fun x hx=>by have:=zu8.1 hP x hx;simpa[JX] using this
  have hb2:=zgL 4000000000001 (by omega) ((l.take q).map fun x=>jq x fx) fun x hx=>by obtain⟨y,_,rfl⟩:=zv2.1 hx;exact zF _ _
  rw[zvb] at hb2;rw[zu5,zvA (by omega)] at hb1 hb2;have hb3:=zF l[q].n fx;have hfl:(((l.take q).map fun x=>jq x fx).flatMap y6).length=q*2:=by rw[zf yg];simp;omega
  have hlF:∀m,zt m (((l.take q).map fun x=>jq x fx).flatMap y6):=fun m=>zns m _;have w2:IntKind.i64.wrap (qL ((l.take q).map fun x=>jq x fx)+zg l[q].n fx)=qL ((l.take q).map (fun x=>jq x fx)++[jq l[q] fx]):=by rw[zoU];exact ze (by simp only[jq] at *;omega) (by simp only[jq] at *;omega)
  rw[e1,zvp] at hN;generalize hF:((l.take q).map fun x=>jq x fx).flatMap y6=F at *;simp[-List.map_take,l33_0,hq,b3,b4,b5,y6];refine zb.pure (nearQ ..) ?_;simp[-List.map_take];refine zc (fun k1=> ?_) (fun k1=> ?_)
  rotate_left
  ·simp;refine bad _ ?_;rw[e0,zuS];intro h;have:=zu8.1 h _ (zvi hq);simp[k1] at this
  have hn:JX l[q].n=true:=k1;simp[-List.map_take];refine zb.pure (ofX ..) ?_;have w1:IntKind.i64.wrap (qL (l.take q)+l[q].n)=qL (l.take (q+1)):=by rw[e2];simp[JX] at hn;exact ze (by omega) (by omega)
  simp[-List.map_take,w1,w2,hfl,show(q+1)*16≤140737488355328 by omega,yr hq (by omega)];exact yL (fun fr g'=>hN (w+1) fr g' (by rw[e3,hP,hn];rfl)) (by simp[y6,jq]) (by simp[-List.map_take]) (by simpa using hlt) (by simp[lvO,hlF])
 ·rintro w hP;rw[zu9] at hP⊢;rw[zuU (by simpa using hP)] at e0;have hb2:=zgL 4000000000001 (by omega) (l.map fun x=>jq x fx) fun x hx=>by
   obtain⟨y,_,rfl⟩:=zv2.1 hx;exact zF _ _
  rw[zvb] at hb2;have hb3:=zF (qL l) fx;have hw:IntKind.i64.wrap (zg (qL l) fx-qL (l.map fun x=>jq x fx))=zg (qL l) fx-qL (l.map fun x=>jq x fx):=ze (by omega) (by omega);simp[l33_0];refine zb.pure (ofX ..) ?_;simp[hw];refine zc (fun k1=> ?_) (fun k1=> ?_)
  ·simp at k1;rw[zuU (by simpa using k1)] at e0;simp[hw];exact Gh.pure (u':= .tup [.s (zaN (l.map fun x=>jq x fx)),fi (zg (qL l) fx-qL (l.map fun x=>jq x fx)),fi 0]) (.cons (.s (by
    rw[show l.length=(l.map fun x=>jq x fx).length by simp];exact .fl (t:=43) yg (fun m a=>zcm a m) (zuO _) (by simp))) (.cons .i (.cons .i .nil))) (hΨ _ _ ⟨by rw[e0],rfl⟩)
  ·simp at k1;rw[zuS (by simpa using k1)] at e0;simp;exact bad _ e0
theorem growX{g:XH}{n:Int}(h0:0≤n)(h1:n≤1000000):Cl C (fun _=>False) 161 [.s (.v .nils),fi n] g (qv g 43 2 0 []):=by
 rintro R args1 rfl H ra;obtain⟨a1,a2,rfl,q1,q2⟩:∃a1 a2,args1=[.s a1,.s a2]∧RV R (.v .nils) a1∧RV R (xi n) a2:=by
  match args1,ra with
  |[.s a1,.s a2],h=>simp only[RFs,RF] at h;exact⟨a1,a2,rfl,h.1,h.2.1⟩
  |[],h=>simp[RFs] at h
  |[_],h=>simp[RFs] at h
  |_::_::_::_,h=>simp[RFs] at h
  | .agg _::_,h=>simp[RFs,RF] at h
  | .tup _::_,h=>simp[RFs,RF] at h
  | .s _:: .agg _::_,h=>simp[RFs,RF] at h
  | .s _:: .tup _::_,h=>simp[RFs,RF] at h
 simp only[RV] at q1 q2;obtain⟨rfl,_⟩:=q1;obtain⟨rfl,_⟩:=q2;by_cases hn:n=0
 ·have hg:zaH [.s .nils,.s (.int .i64 n)] R.h=some ([.s .nils],R.h):=by
   simp[zaH,h0,h1,hn]
  have hc:=Zz (C:=C) (f:=161) (g:=zaH) (k:=2) rfl (args:=[.s .nils,.s (.int .i64 n)]) (h:=R.h) (h':=R.h) (v:= .s .nils) rfl hg (zuO _) rfl;have:=zkr (W:=fun _=>False) (g:=R.g) (t:=43) (z:=2) (Ψ:=qv R.g 43 2 0 []) (fun _ _ h=>h);obtain⟨R2,u2,b1,b2,b3,b4,b5⟩:=this R R (.s .nils) rfl H H (Ex2.refl _ _) rfl (by simp[RF,RV,nlS]);exact⟨.s .nils,R.h,hc,R2,u2,b1,b2,b3,b4,b5⟩
 ·have hg:zaH [.s .nils,.s (.int .i64 n)] R.h=some ([.s (.sl R.h.length 0 0 0)],R.h++[.own 43 []]):=by
   simp[zaH,h0,h1,hn]
  have hc:=Zz (C:=C) (f:=161) (g:=zaH) (k:=2) rfl (args:=[.s .nils,.s (.int .i64 n)]) (h:=R.h) (h':=R.h++[.own 43 []]) (v:= .s (.sl R.h.length 0 0 0)) rfl hg (by simp) rfl;have:=QB H (w:=0) (t:=43) (z:=2) (cs:=[]) (vs:=[]) (by simp[RVs]);exact⟨_,_,hc,R.new (.own 0 43 2 []) (.own 43 []),.s (.sl R.g.length 0 0 0),rfl,this.1,Yu _ _ _ _,by simp only[RF];exact(QC 0).2,0,rfl,rfl⟩
theorem zm4{α:Type}{enc:α→List XV}{t z y:Nat}(he:∀a,(enc a).length=z)(hz:z≠0){g:XH}{w:Nat}{M a:List α}(hy:(M.length+a.length)*y≤140737488355328):∃w',zcc (g++[.own w t z (M.flatMap enc)]) t z y (.s (.sl g.length w 0 M.length)) a.length (a.flatMap enc)=some (.s (.sl g.length w' 0 (M++a).length),g++[.own w' t z ((M++a).flatMap enc)]):=by
 have hl:(M.flatMap enc).length=M.length*z:=zf he M;by_cases h0:a.length=0
 ·have ha:a=[]:=zv0 h0;subst ha;refine⟨w,?_⟩;simp[zm2]
 ·refine⟨w+1,?_⟩;rw[zfE h0];have h1:(a.flatMap enc).length≠0:=by rw[zf he];exact zxu h0 hz
  rw[zuU h1];simp[hl,hy]
theorem zqc{g:XH}{k w:Nat}{va vb:XV}{a b:List It}(hk:g[k]? =some (.own w 32 1 [va,vb]))(ha:RdX g 43 2 y6 va a)(hb:RdX g 43 2 y6 vb b)(hal:a.length≤1000)(hbl:b.length≤1000):
 Cl C (fun _=>False) 85 [.s (.sl k w 0 2)] g (qv g 43 2 (a++b).length ((a++b).flatMap y6)):=by
 have lk:=zd hk;refine Cl.ip rfl (zuI rfl) fun Ψ hΨ=> ?_;simp;refine Lp.genU (σ:=Unit) 2 (fun k _=>[(3,fi (if k=0 then 0 else if k=1 then(a.length:Int) else((a.length+b.length:Nat):Int))),(11,fi k)]) (fun _ _=>g) (fun _ _=>True) () (by decide) rfl (by simp) rfl trivial ?_ ?_
 ·rintro q hq _ _ hlt N hN;have hla:=ha.len;have hlb:=hb.len;obtain rfl|rfl:q=0∨q=1:=by omega
  ·simp[l85_0,hk,lk,hla,ze (n:=(a.length:Int)) (by omega) (by omega),show¬(a.length:Int)<0 by omega,show IntKind.i64.wrap 1=1 from rfl];exact qh () hN trivial (by simp) (by simpa using hlt)
  ·simp[l85_0,hk,lk,hlb,ze (n:=(a.length:Int)+b.length) (by omega) (by omega),show¬(a.length:Int)+b.length<0 by omega,show IntKind.i64.wrap 2=2 from rfl];exact qh () hN trivial (by simp) (by simpa using hlt)
 ·rintro _ _;simp[l85_0];refine zb.go (growX (n:=(a.length:Int)+b.length) (by omega) (by omega)) (fun _ _ h=>h.elim) ?_;rintro u g' ⟨w1,rfl,rfl⟩;simp;refine Lp.genU (σ:=Nat) 2 (fun k w=>[(6,.s (.sl g.length w 0 (if k=0 then([]:List It) else if k=1 then a else a++b).length)),(27,fi k)]) (fun k w=>g++[.own w 43 2 ((if k=0 then([]:List It) else if k=1 then a else a++b).flatMap y6)]) (fun _ _=>True) w1 (by decide) rfl (by simp) (by simp) trivial ?_ ?_
  ·rintro q hq w2 _ hlt N hN;obtain rfl|rfl:q=0∨q=1:=by omega
   ·obtain⟨w3,h3⟩:=zm4 (g:=g) (t:=43) (y:=16) yg (by decide) (w:=w2) (M:=[]) (a:=a) (by simp;omega);have h4:=fun J=>(ha.app (J:=J)).el;simp at h3 h4 hN hlt;simp[l85_1,hk,lk,h4,h3,show IntKind.i64.wrap 1=1 from rfl];exact yL (fun fr g'=>hN w3 fr g') rfl (by simp) (by simp[lk];omega) (by simp[lvO])
   ·obtain⟨w3,h3⟩:=zm4 (g:=g) (t:=43) (y:=16) yg (by decide) (w:=w2) (M:=a) (a:=b) (by omega);have h4:=fun J=>(hb.app (J:=J)).el;simp at h3 h4 hN hlt;simp[l85_1,hk,lk,h4,h3,show IntKind.i64.wrap 2=2 from rfl];exact yL (fun fr g'=>hN w3 fr g') rfl (by simp) (by simp[lk];omega) (by simp[lvO])
  ·rintro w2 _;simp[l85_1];rw[←zuQ,←zvp];exact zhm (k:=0) (J:=[.own w2 43 2 ((a++b).flatMap y6)]) rfl (by simp) (fun u g' h=>hΨ u g' h)
def zhu(k:Int)(x:It):Bool:=x.k==k
theorem keyTP(x y:It){g:XH}{a:Nat}(ha:g[a]? =some (.own 0 43 2 (y6 y))):Cl C (fun _=>False) 87 [.agg (y6 x),.s (.ptr a 0 0)] g fun u g'=>u=fb (zhu y.k x)∧g'=g:=by have la:=zd ha;refine Cl.ip rfl (zuI rfl) fun Ψ hΨ=> ?_;simp[y6] at ha⊢;simp[ha,la];exact Gh.pure (.s (.lt (by simp))) (hΨ _ _ ⟨by simp[zhu],rfl⟩)
def zbD(k:Int)(f:It→It):List It→List It
 |[]=>[f ⟨k,0⟩]
 |x::l=>if zhu k x then f x::l else x::zbD k f l
theorem zab(k:Int)(f:It→It):∀(l:List It) (j:Nat),(ym (zhu k) j l= -1∧zbD k f l=l++[f ⟨k,0⟩])∨∃i,ym (zhu k) j l=((j+i:Nat):Int)∧∃h:i<l.length,zbD k f l=l.set i (f l[i])
 |[],j=> .inl ⟨rfl,rfl⟩
 |x::l,j=>by
  unfold ym zbD;cases hk:zhu k x with
  |true=>exact .inr ⟨0,by simp,by simp,by simp⟩
  |false=>
   rcases zab k f l (j+1) with⟨h1,h2⟩|⟨i,h1,h2,h3⟩
   ·exact .inl ⟨by simpa using h1,by simp[h2]⟩
   ·exact .inr ⟨i+1,by simp only[zvf,if_false];rw[h1];congr 1;omega,by simpa using h2,by simp[h3]⟩
theorem zot(k:Int)(f:It→It)(l:List It):(zbD k f l).length≤l.length+1:=by rcases zab k f l 0 with⟨_,h⟩|⟨i,_,_,h⟩<;>rw[h]<;>simp
def Q0(l:List It)(x:It):List It:=zbD x.k (fun y=>⟨y.k,wr (y.n+x.n)⟩) l
theorem zan:∀(b:List It) (l:List It),(b.foldl Q0 l).length≤l.length+b.length
 |[],l=>by simp
 |x::b,l=>by have h1:=zan b (Q0 l x);have h2:=zot x.k (fun y=>⟨y.k,wr (y.n+x.n)⟩) l;simp only[zwC,zvw];unfold Q0 at h1⊢;omega
def ltT(a b:It):Bool:=decide (a.k<b.k)
def zgZ(a b:List It):List It:=zu ltT ((a++b).foldl Q0 [])
def zeA(l:List It):Prop:=l.Pairwise fun a b=>a.k≠b.k
theorem zc2:∀{l:List It},zeA l→jx ltT l=true
 |[],_=>rfl
 |x::l,h=>by obtain⟨h1,h2⟩:=zvg.1 h;simp only[jx,zuR,zu8];refine⟨fun y hy=> ?_,zc2 h2⟩;have:=h1 y hy;simp[ltT];omega
theorem zh5{k:Int}{f:It→It}(hf:∀w,(f w).k=w.k):∀{l:List It} {x:It},x∈zbD k f l→x.k=k∨∃z∈l,x.k=z.k
 |[],x,h=>by
  simp[zbD] at h;subst h;exact .inl (hf _)
 |z::l,x,h=>by
  unfold zbD at h;split at h
  ·rcases zu2.1 h with rfl|h
   ·exact .inr ⟨z,by simp,hf z⟩
   ·exact .inr ⟨x,by simp[h],rfl⟩
  ·rcases zu2.1 h with rfl|h
   ·exact .inr ⟨x,by simp,rfl⟩
   ·rcases zh5 hf h with h|⟨z',h1,h2⟩
    ·exact .inl h
    ·exact .inr ⟨z',by simp[h1],h2⟩
theorem zfc{k:Int}{f:It→It}(hf:∀w,(f w).k=w.k):∀{l:List It},zeA l→zeA (zbD k f l)
 |[],_=>by simp[zbD,zeA]
 |z::l,h=>by
  obtain⟨h1,h2⟩:=zvg.1 h;unfold zbD;split
  ·refine zvg.2 ⟨fun a ha=> ?_,h2⟩;rw[hf z];exact h1 a ha
  ·rename_i hk;refine zvg.2 ⟨fun a ha=> ?_,zfc hf h2⟩;rcases zh5 hf ha with e1|⟨z',hz,e1⟩
   ·rw[e1];simpa[zhu] using hk
   ·rw[e1];exact h1 z' hz
theorem zdl:∀(b:List It) (l:List It),zeA l→zeA (b.foldl Q0 l)
 |[],_,h=>h
 |x::b,l,h=>zdl b (Q0 l x) (zfc (f:=fun y=>⟨y.k,wr (y.n+x.n)⟩) (fun _=>rfl) h)
def cT(b:It):List SV:=[.int .i64 b.k,.int .i64 b.n]
theorem zkf(l:List It):(l.flatMap cT).map XV.v=l.flatMap y6:=by rw[zxm];rfl
theorem ltK_T(a b:It):ltK [0] (cT a) (cT b)=ltT a b:=by simp[ltK,cT,ltT]
theorem fxAdd{g:XH}{va vb:XV}{a b:List It}(ha:RdX g 43 2 y6 va a)(hb:RdX g 43 2 y6 vb b)(hal:a.length≤400)(hbl:b.length≤400):
 Cl C (fun _=>False) 35 [.s va,.s vb] g fun u g'=>u= .s (zaN (zgZ a b))∧g'=g:=by
 refine Cl.ip rfl (zuI rfl) fun Ψ hΨ=> ?_;simp;refine zb.go (Fresh.frz (zqc (k:=g.length) (w:=0) (va:=va) (vb:=vb) (by simp) ha.app hb.app (by omega) (by omega)) (by simp) (by rw[zf yg])) (fun _ _ h=>h.elim) ?_;rintro u g' ⟨rfl,rfl⟩;have h0:zgZ a b=zu ltT ((a++b).foldl Q0 []):=rfl;have hll:(a++b).length≤800:=by simp;omega
 have hdist:=zc2 (zdl (a++b) [] List.Pairwise.nil);rw[h0] at hΨ;generalize a++b=l at *;simp;generalize hK:g++[XO.own 0 32 1 [va,vb]]=K;change XH at K;have hgK:g.length≤K.length:=by rw[←hK];simp
 refine Lp.genG 43 2 (σ:=Nat×List It) l.length (fun k s=>[(5,.s (.sl K.length s.1 0 s.2.length)),(14,fi k)]) (fun k s=>K++[.own s.1 43 2 (s.2.flatMap y6)]) (fun k s=>s.2=(l.take k).foldl Q0 []) (0,[]) (by decide) rfl (by simp[GhF]) (by simp) (by simp) ?_ ?_
 ·rintro q hq ⟨w,L⟩ hP hlt N hN;simp only at *;subst hP;have hLl:=zan (l.take q) [];rw[zu5,zwb] at hLl;have hs:=zbk Q0 [] l hq;generalize(l.take q).foldl Q0 []=L at *;obtain⟨a1,a2,_⟩:=atX yg hq;have h2:=zf yg L;have hI:=Yq (q:=zhu l[q].k) (f:=86) (t:=43) (z:=2) (enc:=y6) (c:= .cl (K.length+2)) (l:=L) (v:= .sl K.length w 0 L.length) (g:=K++[.own w 43 2 (L.flatMap y6),.own 0 43 2 [xi l[q].k,xi l[q].n],.clo 87 [] [.s (.ptr (K.length+1) 0 0)]]) rfl yg (by decide) (RdX.sl yg (by simp)) (by omega) (.inr ⟨K.length+2,87,[],[.s (.ptr (K.length+1) 0 0)],rfl,by simp,fun x _=>keyTP x l[q] (by simp[y6])⟩);simp[l35_0,hq,a1,a2,y6,hgK,show g.length≤K.length+1 by omega];refine zb.go0 hI ?_;clear hI;have hp:=zab l[q].k (fun y=>⟨y.k,wr (y.n+l[q].n)⟩) L 0;rcases hp with⟨e1,e2⟩|⟨i,e1,hi,e2⟩
  ·have h1:=jO yg (l:=L++[⟨l[q].k,0⟩]) (k:=L.length) (by simp) (c:=1) (by decide) (v:=xi (wr (0+l[q].n))) (x:=⟨l[q].k,wr (0+l[q].n)⟩) (by simp[y6]) [];have e3:(L++[(⟨l[q].k,0⟩:It)]).set L.length ⟨l[q].k,wr (0+l[q].n)⟩=L++[⟨l[q].k,wr (0+l[q].n)⟩]:=by
    rw[zvW _ _ (zuO _),zvL];rfl
   rw[e3] at h1;simp[y6,zxD] at h1;have e4:Q0 L l[q]=L++[⟨l[q].k,wr (0+l[q].n)⟩]:=e2;have h5:((L.flatMap y6)++[xi l[q].k,xi 0])[L.length*2+1]? =some (xi 0):=by rw[zuP (by omega),h2];simp
   simp[e1,h2,hgK,show(L.length+1)*16≤140737488355328 by omega,h5,h1,show(L.length:Int)<L.length+1 by omega,show L.length*2+1+1≤L.length*2+2 by omega,yr hq (by omega)];exact yL (fun fr g'=>hN (w+1,Q0 L l[q]) fr g' hs.symm) (by rw[e4];simp[y6,zxD]) (by rw[e4];simp) (by rw[e4];simp) (by simp[lvO])
  ·rw[zvt] at e1;have h1:=jO yg (l:=L) (k:=i) hi (c:=1) (by decide) (v:=xi (wr (L[i].n+l[q].n))) (x:=⟨L[i].k,wr (L[i].n+l[q].n)⟩) rfl [];simp only[zvj] at h1;have h3:i*2+1+1≤(L.flatMap y6).length:=by omega
   have h4:¬L.flatMap y6=[]:=fun e=>by rw[e] at h2;simp at h2;omega
   have h5:(L.flatMap y6)[i*2+1]? =some (xi L[i].n):=by have:=(atX yg hi).2.2 1 (by decide);simpa[y6] using this
   rw[←e2] at h1;have e3:(zbD l[q].k (fun y=>⟨y.k,wr (y.n+l[q].n)⟩) L).length=L.length:=by rw[e2,zvx]
   simp[e1,hi,h1,h3,h4,h5,hgK,show¬(i:Int)<0 by omega,yr hq (by omega)];exact yL (fun fr g'=>hN (w,Q0 L l[q]) fr g' hs.symm) rfl (by simp[Q0,e3]) (by simp) (by simp[lvO])
 ·rintro⟨w,L⟩ hP;simp only[zu9] at *;subst hP;have hLl:=zan l [];rw[zwb] at hLl;generalize l.foldl Q0 []=L at *;simp[l35_0];refine zb.go (za3 (o:=0) (enc:=cT) (lta:=ltT) rfl (fun _=>rfl) (by decide) (fun a v hv=>by simp[cT] at hv;rcases hv with rfl|rfl<;>rfl) (fun _=>rfl) ltK_T (l:=L) (cs:=L.flatMap y6) (w:=w) (k:=K.length) (by simp) (by rw[zvt,zf yg];exact zuO _) (by rw[zv1,zvd,←zf yg,zu9,zkf]) hdist (by omega)) (fun x hx e=> .inl (by omega)) ?_;rintro u g' ⟨rfl,rfl⟩;rw[zkf,zv1,ZQ (by rw[zf yg,zf yg,zJ])];have hil:(zu ltT L).length=L.length:=zJ _ _;rw[←hil];simp;subst hK;rw[zvc];exact Gh.pure (.s (.fl (t:=43) yg (fun m a=>zcm a m) (by simp) (by simp))) (hΨ _ _ ⟨rfl,rfl⟩)
def jy(j:Jo):List XV:=[xi j.seq,xs j.id,xi j.p,xi j.kind,xi j.of,zem j.l]
theorem qA(j:Jo):(jy j).length=6:=rfl
@[simp] theorem zfU(j:Jo)(m:Nat):zt m (jy j):=by simp[jy]
@[simp] theorem zno(m:Nat)(l:List Jo):zt m (l.flatMap jy):=zP (fun a=>zfU a m) l
def j8(g:XH)(i k:Nat)(l:List Jo):Prop:=∃w,g[i]? =some (.own 0 175 1 [.sl k w 0 l.length])∧g[k]? =some (.own w 184 6 (l.flatMap jy))
structure StoL(l:List Jo):Prop where
 len:l.length≤200
 l:∀j∈l,j.l.length≤20
theorem j8.app{g J:XH}{i k:Nat}{l:List Jo}(h:j8 g i k l):j8 (g++J) i k l:=by obtain⟨w,h1,h2⟩:=h;exact⟨w,by rw[zq (zd h1)];exact h1,by rw[zq (zd h2)];exact h2⟩
def zn9(l:List Li)(a:Int):Int:=if zaD l then ji l a else 0
def zll(id:ByteArray)(a upto:Int)(n:Int)(j:Jo):Int:=if j.id==id&&decide (j.p≤upto) then wr (n+zn9 j.l a) else n
def Q1(l:List Jo)(id:ByteArray)(a upto:Int):Int:=l.foldl (zll id a upto) 0
theorem zak{g:XH}{i k:Nat}{l:List Jo}(h:j8 g i k l)(hl:StoL l)(id:ByteArray)(a upto:Int):Cl C (fun _=>False) 103 [.s (.ptr i 0 0),fs id,fi a,fi upto] g fun u g'=>u=fi (Q1 l id a upto)∧g'=g:=by
 obtain⟨w,hi,hk⟩:=h;have li:=zd hi;have lk:=zd hk;have hll:=hl.len;refine Cl.ip rfl (zuI rfl) fun Ψ hΨ=> ?_;simp[hi,li];refine Lp.foldU l (fun q (s:Int)=>[(9,fi s),(17,fi q)]) (fun _ _=>g) (zll id a upto) 0 (by decide) rfl (by simp) rfl ?_ ?_
 ·rintro q hq s hs hlt N hN;obtain⟨a1,a2,_⟩:=atX qA hq;have hjl:=hl.l _ (zvi hq);have e:zll id a upto s l[q]=if l[q].id==id&&decide (l[q].p≤upto) then wr (s+zn9 l[q].l a) else s:=rfl
  rw[e] at hN;clear e;generalize l[q]=j at *;simp[l103_0,hq,a1,a2,hk,lk,jy,yT];refine zc (fun k1=> ?_) (fun k1=> ?_)
  ·simp at k1;simp;refine zc (fun k2=> ?_) (fun k2=> ?_)
   ·simp at k2;simp;refine zb.go0 (zjg (RdX.lst _ j.l) (by omega) a) ?_;simp[yr hq (by omega)];rw[zuS (by simp[k1,k2,z1])] at hN;exact Y5 hN (by simp[zn9]) (by simpa using hlt)
   ·simp at k2;simp[yr hq (by omega)];rw[zuU (by simp[k1,z1];omega)] at hN;exact Y5 hN (by simp) (by simpa using hlt)
  ·simp at k1;simp[yr hq (by omega)];rw[zuU (by simp[k1,z1])] at hN;exact Y5 hN (by simp) (by simpa using hlt)
 ·rintro s rfl;simp[l103_0];exact Gh.here (hΨ _ _ ⟨rfl,rfl⟩)
def qn(l:List Jo)(id:ByteArray)(upto:Int)(k:Nat):List Li:=((List.range k).map fun(j:Nat)=>(⟨(j:Int)+1,Q1 l id ((j:Int)+1) upto⟩:Li)).filter fun x=>x.n !=0
theorem ziv(l:List Jo)(id:ByteArray)(upto:Int)(k:Nat):qn l id upto (k+1)=if Q1 l id ((k:Int)+1) upto=0 then qn l id upto k else qn l id upto k++[⟨(k:Int)+1,Q1 l id ((k:Int)+1) upto⟩]:=by
 unfold qn;rw[zxL,zvs,zwx];split
 ·rename_i h;simp[h]
 ·rename_i h;simp[h]
theorem zj1(l:List Jo)(id:ByteArray)(upto:Int)(k:Nat):(qn l id upto k).length≤k:=by unfold qn;have:=zwa (fun x:Li=>x.n !=0) ((List.range k).map fun(j:Nat)=>(⟨(j:Int)+1,Q1 l id ((j:Int)+1) upto⟩:Li));rw[zvb,zxz] at this;exact this
def zgS(l:List Jo)(id:ByteArray)(upto:Int):List Li:=qn l id upto 7
theorem zoQ{g:XH}{i k:Nat}{l:List Jo}(h:j8 g i k l)(hl:StoL l)(id:ByteArray)(upto:Int):Cl C (fun _=>False) 49 [.s (.ptr i 0 0),fs id,fi upto] g fun u g'=>u= .s (zem (zgS l id upto))∧g'=g:=by
 refine Cl.ip rfl (zuI rfl) fun Ψ hΨ=> ?_;simp;refine zb.go0 QP ?_;have ha:zeh.length=7:=rfl;have haq:∀(q:Nat) (h:q<zeh.length),zeh[q]=(q:Int)+1:=by decide
 simp[ha];refine Lp.genG 189 2 (σ:=Nat) 7 (fun k w=>[(7,.s (.sl g.length w 0 (qn l id upto k).length)),(13,fi k)]) (fun k w=>g++[.own w 189 2 ((qn l id upto k).flatMap y9)]) (fun _ _=>True) 0 (by decide) rfl (by simp[GhF,qn]) (by simp[qn]) trivial ?_ ?_
 ·rintro q hq w _ hlt N hN;have hml:=zj1 l id upto q;have hfl:((qn l id upto q).flatMap y9).length=(qn l id upto q).length*2:=zf yF _;rw[ziv] at hN;have hqa:q<zeh.length:=by rw[ha];exact hq
  have e:=JP hqa;rw[haq q hqa] at e;generalize qn l id upto q=M at *;simp[l49_0,show(q:Int)<7 by omega,hq,hqa,e];refine zb.go0 (zak h.app hl id ((q:Int)+1) upto) ?_;simp;refine zc (fun k2=> ?_) (fun k2=> ?_)
  ·simp at k2;rw[zuU k2] at hN;simp[hfl,show(M.length+1)*16≤140737488355328 by omega,yr hq (by omega)];exact yL (fun fr g'=>hN (w+1) fr g' trivial) (by simp[y9]) (by simp) (by simpa using hlt) (by simp[lvO])
  ·simp at k2;rw[zuS k2] at hN;simp[yr hq (by omega)];exact yL (fun fr g'=>hN w fr g' trivial) rfl (by simp) (by simpa using hlt) (by simp[lvO])
 ·rintro w _;simp[l49_0];exact Gh.pure (.s (.fl (t:=189) yF (fun m a=>zaB a m) (zuO _) (by simp))) (hΨ _ _ ⟨rfl,rfl⟩)
theorem zsV{g:XH}{v:XV}{l:List Li}(r:RdX g 189 2 y9 v l)(hl:l.length≤1000000):Cl C (fun _=>False) 173 [.s v] g fun u g'=>u= .s (zem l)∧g'=g:=
 zfG (z:=2) rfl rfl rfl yF (by decide) r (fun m a=>zaB a m) (by omega)
theorem zjf{g:XH}{j:Jo}(hj:j.l.length≤1000):Cl C (fun _=>False) 101 [.agg (jy j)] g fun u g'=>u= .agg (jy j)∧g'=g:=by refine Cl.ip rfl (zuI rfl) fun Ψ hΨ=> ?_;simp[jy];refine zb.go0 (zsV (RdX.lst _ j.l) (by omega)) ?_;simp;exact Gh.pure (u':= .agg (jy j)) (.agg (.lts (zfU j _))) (hΨ _ _ ⟨rfl,rfl⟩)
theorem zin{g:XH}{i k:Nat}{l:List Jo}(h:j8 g i k l)(hl:StoL l):Cl C (fun _=>False) 48 [.s (.ptr i 0 0)] g (qv g 184 6 l.length (l.flatMap jy)):=by
 have hP:=h;obtain⟨w,hi,hk⟩:=h;have li:=zd hi;have lk:=zd hk;have hll:=hl.len;refine Cl.ip rfl (zuI rfl) fun Ψ hΨ=> ?_;simp[hi,li];refine Lp.genG 184 6 (σ:=Nat) l.length (fun k w=>[(3,.s (.sl g.length w 0 k)),(11,fi k)]) (fun k w=>g++[.own w 184 6 ((l.take k).flatMap jy)]) (fun _ _=>True) 0 (by decide) rfl (by simp[GhF]) (by simp) trivial ?_ ?_
 ·rintro q hq w2 _ hlt N hN;obtain⟨a1,a2,_⟩:=atX qA hq;have e1:l.take (q+1)=l.take q++[l[q]]:=zu0 hq;have hfl:((l.take q).flatMap jy).length=q*6:=by rw[zf qA];simp;omega
  have hlF:∀m,zt m ((l.take q).flatMap jy):=fun m=>zno m _;have hjl:=hl.l _ (zvi hq);rw[e1,zvp] at hN;generalize(l.take q).flatMap jy=F at *;generalize l[q]=j at *;have hO:=fun g=>zjf (g:=g) (j:=j) (by omega);simp[jy] at hO;simp[l48_0,hq,a1,a2,hk,lk,jy];refine zb.go0 (hO _) ?_;simp[hfl,show(q+1)*72≤140737488355328 by omega,yr hq (by omega)];exact yL (fun fr g'=>hN (w2+1) fr g' trivial) (by simp[jy]) (by simp) (by simpa using hlt) (by simp[lvO,hlF])
 ·rintro w2 _;rw[zu9];simp[l48_0];exact Gh.here (hΨ _ _ ⟨w2,rfl,rfl⟩)
def zdz(of:Int)(j:Jo):Bool:=j.seq==of
def zie(of:Int)(j:Jo):Bool:=j.kind==2&&j.of==of
theorem keyJP(x:Jo)(of:Int){g:XH}{a:Nat}(ha:g[a]? =some (.own 0 3 1 [xi of])):Cl C (fun _=>False) 326 [.agg (jy x),.s (.ptr a 0 0)] g fun u g'=>u=fb (zdz of x)∧g'=g:=by have la:=zd ha;refine Cl.ip rfl (zuI rfl) fun Ψ hΨ=> ?_;simp[jy,ha,la];exact Gh.pure (.s (.lt (by simp))) (hΨ _ _ ⟨by simp[zdz],rfl⟩)
theorem revJP(x:Jo)(of:Int){g:XH}{a:Nat}(ha:g[a]? =some (.own 0 3 1 [xi of])):Cl C (fun _=>False) 328 [.agg (jy x),.s (.ptr a 0 0)] g fun u g'=>u=fb (zie of x)∧g'=g:=by
 have la:=zd ha;refine Cl.ip rfl (zuI rfl) fun Ψ hΨ=> ?_;simp[jy,ha,la]
 repeat' first|(refine zc (fun hc=> ?_) (fun hc=> ?_)<;>try simp[jy,ha,la])
 all_goals(refine Gh.pure (.s (.lt (by simp))) (hΨ _ _ ⟨?_,rfl⟩);simp at *;simp[zie, *])
theorem YW{α:Type}(q:α→Bool):∀(l:List α) (k:Nat),(ym q k l= -1∧l.find? q=none)∨∃i,ym q k l=((k+i:Nat):Int)∧∃h:i<l.length,l.find? q=some l[i]
 |[],k=> .inl ⟨rfl,rfl⟩
 |x::l,k=>by
  unfold ym;cases hk:q x with
  |true=>exact .inr ⟨0,by simp,by simp,by simp[hk]⟩
  |false=>
   rcases YW q l (k+1) with⟨h1,h2⟩|⟨i,h1,h2,h3⟩
   ·exact .inl ⟨by simpa using h1,by simp[hk,h2]⟩
   ·exact .inr ⟨i+1,by simp only[zvf,if_false];rw[h1];congr 1;omega,by simpa using h2,by simp[hk,h3]⟩
def Qq:Jo:=⟨0,⟨#[]⟩,0,0,0,[]⟩
def Jw(l:List Jo)(id:ByteArray)(p of:Int):Jo×Int:=match l.find? (zdz of) with
 |none=>(Qq,3)
 |some j=>if¬(j.id==id)=true∨j.p≠p∨j.kind=2 then(Qq,3) else if l.any (zie of) then(Qq,4) else(j,0)
theorem zir{g:XH}{i k:Nat}{l:List Jo}(h:j8 g i k l)(hl:StoL l)(id:ByteArray)(p of:Int):Cl C (fun _=>False) 292 [.s (.ptr i 0 0),fs id,fi p,fi of] g fun u g'=>u= .tup [.agg (jy (Jw l id p of).1),fi (Jw l id p of).2]∧g'=g:=by
 obtain⟨w,hi,hk⟩:=h;have li:=zd hi;have lk:=zd hk;have hll:=hl.len;refine Cl.ip rfl (zuI rfl) fun Ψ hΨ=> ?_;have bad:∀(e:Int) J,Jw l id p of=(Qq,e)→Gh (fun _=>False) g Ψ (.tup [.agg [xi 0,xs ⟨#[]⟩,xi 0,xi 0,xi 0,.v .nils],fi e]) (g++J):=fun e J h=>Gh.pure (u':= .tup [.agg (jy Qq),fi e]) (.cons (.agg (.cons (.lt (by simp)) (.cons (.lt (by simp)) (.cons (.lt (by simp)) (.cons (.lt (by simp)) (.cons (.lt (by simp)) (.cons .nil .nil))))))) (.cons .i .nil)) (hΨ _ _ ⟨by rw[h],rfl⟩);simp[hi,hk,li,lk];refine zb.go0 (Yq (q:=zdz of) (f:=325) rfl qA (by decide) (RdX.sl qA hk).app (by omega) (.inr ⟨g.length+2,326,[],[.s (.ptr g.length 0 0)],rfl,by simp,fun x _=>keyJP x of (by simp)⟩)) ?_
 have h0:Jw l id p of=match l.find? (zdz of) with
  |none=>(Qq,3)
  |some j=>if¬(j.id==id)=true∨j.p≠p∨j.kind=2 then(Qq,3) else if l.any (zie of) then(Qq,4) else(j,0):=rfl
 rcases YW (zdz of) l 0 with⟨e1,e2⟩|⟨n,e1,hn,e2⟩
 ·rw[e2] at h0;simp[e1];exact bad 3 _ h0
 rw[zvt] at e1;rw[e2] at h0;simp only at h0;obtain⟨a1,a2,a3⟩:=atX qA hn;have c1:=a3 1 (by decide);have c2:=a3 2 (by decide);have c3:=a3 3 (by decide);generalize l[n]=j at *;simp[jy] at c1 c2 c3;simp[e1,hi,hk,li,lk,hn,c1,c2,c3,yT,show¬(n:Int)<0 by omega];have K:(∀J,(¬(j.id==id)=true∨j.p≠p∨j.kind=2)→Gh (fun _=>False) g Ψ (.tup [.agg [xi 0,xs ⟨#[]⟩,xi 0,xi 0,xi 0,.v .nils],fi 3]) (g++J)):=fun J h=>bad 3 J (by rw[h0,zuS h]);refine zc (fun k1=> ?_) (fun k1=> ?_)
 rotate_left
 ·simp at k1;simp;exact K _ (.inl (by simpa[z1] using k1))
 simp at k1;simp[hi,hk,li,lk,hn,c1,c2,c3];refine zc (fun k2=> ?_) (fun k2=> ?_)
 ·simp at k2;simp;exact K _ (.inr (.inl k2))
 simp at k2;simp[hi,hk,li,lk,hn,c1,c2,c3];refine zc (fun k3=> ?_) (fun k3=> ?_)
 ·simp at k3;simp;exact K _ (.inr (.inr k3))
 simp at k3;rw[zuU (by simp[k1,k2,k3,z1])] at h0;simp[hi,hk,li,lk];refine zb.go0 (Qs (q:=zie of) (f:=327) (fi':=325) rfl rfl qA (by decide) (RdX.sl qA hk).app (by omega) (.inr ⟨g.length+3,328,[],[.s (.ptr g.length 0 0)],rfl,by simp,fun x _=>revJP x of (by simp)⟩)) ?_;simp;refine zc (fun k4=> ?_) (fun k4=> ?_)
 ·rw[zuS (by simpa using k4)] at h0;simp;exact bad 4 _ h0
 ·rw[zuU (by simp[k4])] at h0;simp[hi,hk,li,lk,hn,a1,a2,jy];exact Gh.pure (u':= .tup [.agg (jy j),fi 0]) (.cons (.agg (.lts (zfU j _))) (.cons .i .nil)) (hΨ _ _ ⟨by rw[h0],rfl⟩)
def zd4(a b:List Li):Bool:=QW (fun x y=>x.a==y.a&&x.n==y.n) a b
theorem ztb{g:XH}{u v:XV}{a b:List Li}(ra:RdX g 189 2 y9 u a)(rb:RdX g 189 2 y9 v b)(hl:a.length≤1000):Cl C (fun _=>False) 294 [.s u,.s v] g fun r g'=>r=fb (zd4 a b)∧g'=g:=
 ztc (o:=[(0,0),(1,0)]) rfl yF (by decide) (fun x y=>by simp[y9,unV,jM,YS];generalize(x.a==y.a)=p;generalize(x.n==y.n)=q;cases p<;>cases q<;>rfl) ra rb (by omega)
def zgh(l:List Jo)(id:ByteArray)(p kind of:Int)(ls:List Li):Int:=
 if kind=2 then(if(Jw l id p of).2≠0 then(Jw l id p of).2 else if¬yu ls=true then 2 else if¬zd4 ls (yc (Jw l id p of).1.l)=true then 2 else 0)
 else if¬yu ls=true then 2 else 0
theorem zoy{l:List Jo}(hl:StoL l)(id:ByteArray)(p of:Int):(Jw l id p of).1.l.length≤20:=by
 unfold Jw;split
 ·simp[Qq]
 ·rename_i j hj;have:=hl.l j (zv4 hj);split
  ·simp[Qq]
  ·split
   ·simp[Qq]
   ·exact this
theorem zio{g:XH}{i k:Nat}{l:List Jo}(h:j8 g i k l)(hl:StoL l)(id:ByteArray)(p kind of:Int){v:XV}{ls:List Li}(hr:RdX g 189 2 y9 v ls)(hls:ls.length≤1000):Cl C (fun _=>False) 227 [.s (.ptr i 0 0),fs id,fi p,fi kind,fi of,.s v] g fun u g'=>u=fi (zgh l id p kind of ls)∧g'=g:=by
 refine Cl.ip rfl (zuI rfl) fun Ψ hΨ=> ?_;have hrl:=zoy hl id p of
 have h0:zgh l id p kind of ls=if kind=2 then(if(Jw l id p of).2≠0 then(Jw l id p of).2 else if¬yu ls=true then 2 else if¬zd4 ls (yc (Jw l id p of).1.l)=true then 2 else 0)
  else if¬yu ls=true then 2 else 0:=rfl
 simp;refine zc (fun k1=> ?_) (fun k1=> ?_)
 ·simp at k1;rw[zuS k1] at h0;simp[k1];refine zb.go0 (zir h hl id p of) ?_;generalize Jw l id p of=rv at *;simp[jy];refine zc (fun k2=> ?_) (fun k2=> ?_)
  ·simp at k2;rw[zuS k2] at h0;simp;exact Gh.pure .i (hΨ _ _ ⟨by rw[h0],rfl⟩)
  simp at k2;rw[zuU (by simpa using k2)] at h0;simp;refine zb.go0 (JS (RdX.lst _ rv.1.l) (by omega)) ?_;simp;refine zb.go0 (zaM hr.app hls) ?_;cases k3:yu ls with
  |false=>
   rw[zuS (by simp[k3])] at h0;simp;exact Gh.pure .i (hΨ _ _ ⟨by rw[h0],rfl⟩)
  |true=>
   rw[zuU (by simp[k3])] at h0;simp[k1];refine zb.go0 (ztb hr.app (RdX.lst _ (yc rv.1.l)) hls) ?_;simp;refine zc (fun k4=> ?_) (fun k4=> ?_)
   ·rw[zuU (by simp[k4])] at h0;simp;exact Gh.pure .i (hΨ _ _ ⟨by rw[h0],rfl⟩)
   ·rw[zuS (by simp[k4])] at h0;simp;exact Gh.pure .i (hΨ _ _ ⟨by rw[h0],rfl⟩)
 ·simp at k1;rw[zuU k1] at h0;simp;refine zb.go0 (zaM hr hls) ?_;cases k3:yu ls with
  |false=>
   rw[zuS (by simp[k3])] at h0;simp;exact Gh.here (hΨ _ _ ⟨by rw[h0],rfl⟩)
  |true=>
   rw[zuU (by simp[k3])] at h0;simp[show(kind==2)=false by simpa using k1];exact Gh.here (hΨ _ _ ⟨by rw[h0],rfl⟩)
def Zj(l:List Jo)(id:ByteArray)(ls:List Li):Bool:=ls.all fun x=>za (wr (Q1 l id x.a 399+x.n))
def y8(l:List Jo)(id:ByteArray)(p kind of:Int)(ls:List Li):Int×Int×List Jo:=
 if id.size=0∨¬zm p=true∨(kind≠1∧kind≠2)∨(kind=1∧of≠0) then(0,1,l)
 else if zgh l id p kind of ls≠0 then(0,zgh l id p kind of ls,l)
 else if 200≤l.length then(0,5,l)
 else if¬Zj l id ls=true then(0,6,l)
 else((l.length:Int)+1,0,l++[⟨(l.length:Int)+1,id,p,kind,of,ls⟩])
def zjX(g:XH)(i k w:Nat)(l:List Jo):XH:=(g.set k (.own w 184 6 (l.flatMap jy))).set i (.own 0 175 1 [.sl k w 0 l.length])
theorem j8.same{g:XH}{i k:Nat}{l:List Jo}(h:j8 g i k l):∃w,g=zjX g i k w l:=by obtain⟨w,h1,h2⟩:=h;exact⟨w,by unfold zjX;rw[y5 h2,y5 h1]⟩
theorem zdB{l:List Jo}{id:ByteArray}{p kind of:Int}{ls:List Li}(h:zgh l id p kind of ls=0):yu ls=true:=by
 unfold zgh at h;cases hc:yu ls with
 |true=>rfl
 |false=>
  rw[hc] at h;split at h
  ·split at h
   ·rename_i k;exact absurd h k
   ·simp at h
  ·simp at h
theorem Q5{ls:List Li}(h:yu ls=true):ls.length≤20:=by simp[yu] at h;exact h.1.1
theorem zru{g:XH}{i k:Nat}{l:List Jo}(h:j8 g i k l)(hne:i≠k)(hl:StoL l)(id:ByteArray)(p kind of:Int){v:XV}{ls:List Li}(hr:v=zem ls)(hls:ls.length≤1000):Cl C (fun x=>x=i∨x=k) 152 [.s (.ptr i 0 0),fs id,fi p,fi kind,fi of,.s v] g fun u g'=>u= .tup [fi (y8 l id p kind of ls).1,fi (y8 l id p kind of ls).2.1]∧∃w,g'=zjX g i k w (y8 l id p kind of ls).2.2:=by
 obtain⟨w0,he⟩:=h.same;have hP:=h;subst hr;obtain⟨w,hi,hk⟩:=h;have li:=zd hi;have lk:=zd hk;have hll:=hl.len;have hlen:(l.flatMap jy).length=l.length*6:=zf qA l;refine Cl.ip rfl (zuI rfl) fun Ψ hΨ=> ?_;have bad:∀(e:Int) J,y8 l id p kind of ls=(0,e,l)→Gh (fun x=>x=i∨x=k) g Ψ (.tup [fi 0,fi e]) (g++J):=fun e J h=>Gh.pure (.t2 .i .i) (hΨ _ _ ⟨by rw[h],w0,by rw[h];exact he⟩);have bad0:∀(e:Int),y8 l id p kind of ls=(0,e,l)→Gh (fun x=>x=i∨x=k) g Ψ (.tup [fi 0,fi e]) g:=fun e h=>by simpa using bad e [] h
 by_cases h1:id.size=0
 ·have h1':id.toList.isEmpty=true:=by rw[ye];exact zv8 h1
  simp[h1'];exact bad0 1 (by unfold y8;rw[zuS (.inl h1)])
 have h1':id.toList.isEmpty=false:=by rw[ye];exact zv5 h1
 simp[h1'];refine zb.pure (Zc ..) ?_;cases h2:zm p with
 |false=>
  simp;exact bad0 1 (by unfold y8;rw[zuS (.inr (.inl (by simp[h2])))])
 |true=>
 by_cases h3:kind≠1∧kind≠2
 ·simp[show(kind !=1)=true by simpa using h3.1,show(kind !=2)=true by simpa using h3.2];exact bad0 1 (by unfold y8;rw[zuS (.inr (.inr (.inl h3)))])
 by_cases h4:kind=1∧of≠0
 ·obtain⟨rfl,h4⟩:=h4;simp[show(of !=0)=true by simpa using h4];exact bad0 1 (by unfold y8;rw[zuS (.inr (.inr (.inr ⟨rfl,h4⟩)))])
 have hK:¬(id.size=0∨¬zm p=true∨(kind≠1∧kind≠2)∨(kind=1∧of≠0)):=by
  rintro(h|h|h|h)
  ·exact h1 h
  ·exact h h2
  ·exact h3 h
  ·exact h4 h
 have e0:y8 l id p kind of ls=if zgh l id p kind of ls≠0 then(0,zgh l id p kind of ls,l)
  else if 200≤l.length then(0,5,l)
  else if¬Zj l id ls=true then(0,6,l)
  else((l.length:Int)+1,0,l++[⟨(l.length:Int)+1,id,p,kind,of,ls⟩]):=by unfold y8;rw[zuU hK]
 have h3':(kind=1∧of=0)∨kind=2:=by omega
 clear hK h3 h4;rcases h3' with⟨rfl,rfl⟩|rfl
 ·simp;refine zb.go0 (zio hP hl id p _ _ (RdX.lst _ ls) hls) ?_;simp;refine zc (fun k1=> ?_) (fun k1=> ?_)
  ·simp at k1;rw[zuS k1] at e0;simp;exact bad0 _ e0
  simp at k1;have hc20:=Q5 (zdB k1);rw[zuU (by simpa using k1)] at e0;simp[hi,li];refine zc (fun k2=> ?_) (fun k2=> ?_)
  ·simp at k2;rw[zuS (by omega)] at e0;simp;exact bad0 _ e0
  simp at k2;rw[zuU (by omega)] at e0;simp;refine Lp.genU (σ:=Unit) ls.length (fun q _=>[(59,fi q)]) (fun _ _=>g) (fun q _=>Zj l id (ls.take q)=true) () (by decide) rfl (by simp) rfl (by simp[Zj]) ?_ ?_
  ·rintro q hq _ hov hlt N hN;obtain⟨a1,a2,_⟩:=atX yF hq;have e3:Zj l id (ls.take (q+1))=(Zj l id (ls.take q)&&za (wr (Q1 l id ls[q].a 399+ls[q].n))):=zap hq;have hmem:=zvi hq;have hno:za (wr (Q1 l id ls[q].a 399+ls[q].n))=false→Zj l id ls=false:=fun h=>by
    unfold Zj;rw[zxx];exact⟨_,hmem,by simp[h]⟩
   generalize ls[q]=x at *;simp[l152_0,hq,a1,a2,y9];refine zy 7 [16] (fun _=>False) (by decide) (by decide) ?_;simp only[zu7,zvC,zvh,zvd];simp;refine zb.go0 (zak hP.app hl id x.a 399) ?_;simp;refine zb.pure (z7 ..) ?_;simp;refine zc (fun k3=> ?_) (fun k3=> ?_)
   ·simp[yr hq (by omega)];exact J4 () hN (by rw[e3,hov,show za (wr (Q1 l id x.a 399+x.n))=true from k3];rfl) (by simp) (by simpa using hlt)
   ·rw[zuS (by simp[hno k3])] at e0;simp;exact bad 6 _ e0
  ·rintro _ hov;rw[zu9] at hov;rw[zuU (by simp[hov])] at e0;simp[l152_0,hi,li,ze (n:=(l.length:Int)+1) (by omega) (by omega)];refine zy 13 [0,1,2,3,4,5,17] (fun _=>False) (by decide) (by decide) ?_;simp only[zu7,zvC,zvh,zvd];have hO:=fun g=>zjf (g:=g) (j:=⟨(l.length:Int)+1,id,p,1,0,ls⟩) (by simp only;omega);simp[jy] at hO;simp[hi,li];refine zb.go0 (hO _) ?_;have g1:∀x,(g.set k x)[i]? =g[i]? :=fun x=>zH hne.symm;simp[hi,hk,li,lk,hlen,g1,show(l.length+1)*72≤140737488355328 by omega];refine zcr (by simp[lvO]) (by simp[lvO,lk]) (by simp) (hΨ _ _ ⟨by rw[e0],w+1,?_⟩);rw[e0];simp[zjX,jy]
 ·simp;refine zb.go0 (zio hP hl id p _ _ (RdX.lst _ ls) hls) ?_;simp;refine zc (fun k1=> ?_) (fun k1=> ?_)
  ·simp at k1;rw[zuS k1] at e0;simp;exact bad0 _ e0
  simp at k1;have hc20:=Q5 (zdB k1);rw[zuU (by simpa using k1)] at e0;simp[hi,li];refine zc (fun k2=> ?_) (fun k2=> ?_)
  ·simp at k2;rw[zuS (by omega)] at e0;simp;exact bad0 _ e0
  simp at k2;rw[zuU (by omega)] at e0;simp;refine Lp.genU (σ:=Unit) ls.length (fun q _=>[(59,fi q)]) (fun _ _=>g) (fun q _=>Zj l id (ls.take q)=true) () (by decide) rfl (by simp) rfl (by simp[Zj]) ?_ ?_
  ·rintro q hq _ hov hlt N hN;obtain⟨a1,a2,_⟩:=atX yF hq;have e3:Zj l id (ls.take (q+1))=(Zj l id (ls.take q)&&za (wr (Q1 l id ls[q].a 399+ls[q].n))):=zap hq;have hmem:=zvi hq;have hno:za (wr (Q1 l id ls[q].a 399+ls[q].n))=false→Zj l id ls=false:=fun h=>by
    unfold Zj;rw[zxx];exact⟨_,hmem,by simp[h]⟩
   generalize ls[q]=x at *;simp[l152_0,hq,a1,a2,y9];refine zy 7 [16] (fun _=>False) (by decide) (by decide) ?_;simp only[zu7,zvC,zvh,zvd];simp;refine zb.go0 (zak hP.app hl id x.a 399) ?_;simp;refine zb.pure (z7 ..) ?_;simp;refine zc (fun k3=> ?_) (fun k3=> ?_)
   ·simp[yr hq (by omega)];exact J4 () hN (by rw[e3,hov,show za (wr (Q1 l id x.a 399+x.n))=true from k3];rfl) (by simp) (by simpa using hlt)
   ·rw[zuS (by simp[hno k3])] at e0;simp;exact bad 6 _ e0
  ·rintro _ hov;rw[zu9] at hov;rw[zuU (by simp[hov])] at e0;simp[l152_0,hi,li,ze (n:=(l.length:Int)+1) (by omega) (by omega)];refine zy 13 [0,1,2,3,4,5,17] (fun _=>False) (by decide) (by decide) ?_;simp only[zu7,zvC,zvh,zvd];have hO:=fun g=>zjf (g:=g) (j:=⟨(l.length:Int)+1,id,p,2,of,ls⟩) (by simp only;omega);simp[jy] at hO;simp[hi,li];refine zb.go0 (hO _) ?_;have g1:∀x,(g.set k x)[i]? =g[i]? :=fun x=>zH hne.symm;simp[hi,hk,li,lk,hlen,g1,show(l.length+1)*72≤140737488355328 by omega];refine zcr (by simp[lvO]) (by simp[lvO,lk]) (by simp) (hΨ _ _ ⟨by rw[e0],w+1,?_⟩);rw[e0];simp[zjX,jy]
theorem zkq{W:Nat→Prop}{g J:XH}{k t z T Z:Nat}{cs cs':List XV}{Ψ:XF→XH→Prop}(hJ:J[k]? =some (.own 0 t z cs))(hc:FzVs g.length J [some k,none] [.own 0 t z cs',.own 0 T Z []] cs cs')(h:Ψ (.s (.ptr g.length 0 0)) (g++[.own 0 t z cs',.own 0 T Z []])):Gh W g Ψ (.s (.ptr (g.length+k) 0 0)) (g++J):=by
 refine Gh.keep [some k,none] [.own 0 t z cs',.own 0 T Z []] ⟨rfl,rfl,fun i o e=> .inl ⟨e,.inl e⟩,rfl,?_,?_⟩ (.s (.kptr (j:=0) (k:=k) rfl)) (by rw[zwd];exact h)
 ·intro j j' q e e'
  match j,j' with
  |0,0=>rfl
  |0,1=>simp at e'
  |0,n+2=>simp at e'
  |1,_=>simp at e
  |n+2,_=>simp at e
 ·intro j o e
  match j with
  |0=>
   simp only[zvy,zuH] at e;exact .inr ⟨k,0,t,z,cs,cs',rfl,hJ,e.symm,hc⟩
  |1=>
   simp only[zvU,zvy,zuH] at e;exact .inl ⟨rfl,T,Z,e.symm⟩
  |n+2=>simp at e
theorem zks{W S:Nat→Prop}{g G:XH}{Ψ:XF→XH→Prop}{u:XF}(h:Upd S g G)(hu:lvF g.length u)(hp:Ψ u G):Gh W g Ψ u G:=by
 have:=qS (W:=W) (J:=[]) h hu hp
 rwa [zvj] at this
theorem zuh(g:XH):Cl C (fun _=>False) 38 [] g fun u g'=>u= .s (.ptr g.length 0 0)∧g'=g++[.own 0 145 1 [.sl (g.length+1) 0 0 0],.own 0 140 4 []]:=by refine Cl.ip rfl (zuI rfl) fun Ψ hΨ=> ?_;simp;exact zkq (k:=0) (T:=140) (Z:=4) rfl (.cons (.gh (j:=1) rfl rfl) .nil) (hΨ _ _ ⟨rfl,rfl⟩)
theorem zue(g:XH):Cl C (fun _=>False) 39 [] g fun u g'=>u= .s (.ptr g.length 0 0)∧g'=g++[.own 0 175 1 [.sl (g.length+1) 0 0 0],.own 0 184 6 []]:=by refine Cl.ip rfl (zuI rfl) fun Ψ hΨ=> ?_;simp;exact zkq (k:=0) (T:=184) (Z:=6) rfl (.cons (.gh (j:=1) rfl rfl) .nil) (hΨ _ _ ⟨rfl,rfl⟩)
theorem zqx{W:Nat→Prop}{g J:XH}{k w t z:Nat}{cs cs':List XV}{Ψ:XF→XH→Prop}(hJ:J[k]? =some (.own w t z cs))(hc:FzVs g.length J [some k] [.own w t z cs'] cs cs')(h:Ψ (.s (.ptr g.length w 0)) (g++[.own w t z cs'])):Gh W g Ψ (.s (.ptr (g.length+k) w 0)) (g++J):=by
 refine Gh.keep [some k] [.own w t z cs'] ⟨rfl,rfl,fun i o e=> .inl ⟨e,.inl e⟩,rfl,?_,?_⟩ (.s (.kptr (j:=0) (k:=k) rfl)) (by rw[zwd];exact h)
 ·intro j j' k e e';have h1:=(zuM.1 e).1;have h2:=(zuM.1 e').1;simp at h1 h2;omega
 ·intro j o e;have h1:=(zuM.1 e).1;obtain rfl:j=0:=by simpa using h1
  simp only[zvy,zuH] at e;exact .inr ⟨k,w,t,z,cs,cs',rfl,hJ,e.symm,hc⟩
theorem ztw(g:XH):Cl C (fun _=>False) 132 [] g fun u g'=>u= .s (lpV [])∧g'=g:=by refine Cl.ip rfl (zuI rfl) fun Ψ hΨ=> ?_;simp;exact Gh.pure (u':= .s (lpV [])) (.s (.ptr (t:=295) (z:=1) (zuO _) (fun j=>by simp) (by simp) (by simp) (.cons .nil .nil))) (hΨ _ _ ⟨rfl,rfl⟩)
abbrev qa(b:Bool):List XV:=[xb b]
theorem Zg(b:Bool):(qa b).length=1:=rfl
@[simp] theorem encO_lvs(m:Nat)(l:List Bool):zt m (l.flatMap qa):=zP (fun a=>by simp[qa]) l
def Jz(g:XH)(i k:Nat)(first:Int)(t:List Bool):Prop:=∃w junk,(∀m,zt m junk)∧g[i]? =some (.own 0 257 2 [xi first,.sl k w 0 t.length])∧g[k]? =some (.own w 4 1 (t.flatMap qa++junk))
structure StaL(first:Int)(t:List Bool):Prop where
 p:zm first=true
 lo:1≤t.length
 hi:t.length≤500
theorem Jz.app{g J:XH}{i k:Nat}{f:Int}{l:List Bool}(h:Jz g i k f l):Jz (g++J) i k f l:=by obtain⟨w,junk,h0,h1,h2⟩:=h;exact⟨w,junk,h0,by rw[zq (zd h1)];exact h1,by rw[zq (zd h2)];exact h2⟩
def yt(f:Int)(t:List Bool):Int:=f+(t.length:Int)-1
theorem zud(g:XH)(f:Int):Cl C (fun _=>False) 131 [fi f] g fun u g'=>if zm f then u= .tup [.s (.ptr (g.length+1) 0 0),fi 0]∧g'=g++[.own 0 4 1 [xb false],.own 0 257 2 [xi f,.sl g.length 0 0 1]] else u= .tup [.s (.v .nilp),fi 1]∧g'=g:=by
 refine Cl.ip rfl (zuI rfl) fun Ψ hΨ=> ?_;simp;refine zb.pure (Zc ..) ?_;cases hp:zm f with
 |true=>
  simp[rep];exact Gh.here (hΨ _ _ (by rw[hp];exact⟨rfl,rfl⟩))
 |false=>
  simp;exact Gh.here (hΨ _ _ (by rw[hp];exact⟨rfl,rfl⟩))
theorem zrt{g:XH}{i k:Nat}{f:Int}{t:List Bool}(h:Jz g i k f t)(hl:StaL f t):Cl C (fun _=>False) 172 [.s (.ptr i 0 0)] g fun u g'=>u=fi (yt f t)∧g'=g:=by obtain⟨w,junk,h0,hi,hk⟩:=h;have li:=zd hi;have h1:=hl.p;have h2:=hl.hi;have h3:=hl.lo;simp[zm] at h1;refine Cl.ip rfl (zuI rfl) fun Ψ hΨ=> ?_;simp[hi,li,ze (n:=f+(t.length:Int)) (by omega) (by omega),ze (n:=f+(t.length:Int)-1) (by omega) (by omega)];exact Gh.here (hΨ _ _ ⟨rfl,rfl⟩)
theorem zcC{g:XH}{i k:Nat}{f:Int}{t:List Bool}(h:Jz g i k f t)(hl:StaL f t):Cl C (fun _=>False) 98 [.s (.ptr i 0 0)] g fun u g'=>u= .tup [fi (if zm (yt f t) then yt f t else 0),fb (zm (yt f t))]∧g'=g:=by
 refine Cl.ip rfl (zuI rfl) fun Ψ hΨ=> ?_;simp;refine zb.go0 (zrt h hl) ?_;simp;refine zb.pure (Zc ..) ?_;cases hp:zm (yt f t) with
 |true=>
  simp;exact Gh.here (hΨ _ _ ⟨by rw[hp];rfl,rfl⟩)
 |false=>
  simp;exact Gh.here (hΨ _ _ ⟨by rw[hp];rfl,rfl⟩)
def zgQ(f:Int)(t:List Bool):Int×List Bool:=if zm (yt f t) then(0,t.set (t.length-1) true) else(8,t)
theorem zoP{g:XH}{i k:Nat}{f:Int}{t:List Bool}(h:Jz g i k f t)(hne:i≠k)(hl:StaL f t):Cl C (fun x=>x=k) 99 [.s (.ptr i 0 0)] g fun u g'=>u=fi (zgQ f t).1∧Jz g' i k f (zgQ f t).2∧Upd (fun x=>x=k) g g':=by
 have hP:=h;obtain⟨w,junk,h0,hi,hk⟩:=h;have li:=zd hi;have lk:=zd hk;have h2:=hl.hi;have h3:=hl.lo;refine Cl.ip rfl (zuI rfl) fun Ψ hΨ=> ?_;simp;refine zb.go0 (zcC hP hl) ?_;unfold zgQ at hΨ;cases hp:zm (yt f t) with
 |false=>
  rw[hp] at hΨ;simp;exact Gh.here (hΨ _ _ ⟨rfl,hP,Upd.refl⟩)
 |true=>
  rw[hp] at hΨ;have hn:t.length-1<t.length:=by omega
  have hs:=jO Zg (l:=t) (k:=t.length-1) hn (c:=0) (by decide) (v:=xb true) (x:=true) rfl junk;simp only[zxX,zwd] at hs;have hlen:(t.flatMap qa).length=t.length:=by rw[zf Zg];omega
  have e1:((t.length:Int)-1).toNat=t.length-1:=by omega
  have ht0:¬t=[]:=fun e=>by rw[e] at h3;simp at h3
  simp[hi,li,hk,lk,ze (n:=(t.length:Int)-1) (by omega) (by omega),show(1:Int)≤t.length by omega,show(0:Int)≤(t.length:Int)-1 by omega,show(t.length:Int)-1<t.length by omega,e1,hs,hlen,ht0,show t.length-1+1≤t.length+junk.length by omega];have u:Upd (fun x=>x=k) g (g.set k (.own w 4 1 ((t.set (t.length-1) true).flatMap qa++junk))):=by refine Upd.refl.set (S:=fun x=>x=k) rfl ?_;simp[lvO,h0]
  refine zks u (by simp) (hΨ _ _ ⟨rfl,⟨w,junk,h0,?_,?_⟩,u⟩)
  ·rw[zH hne.symm];simp[hi]
  ·rw[yn lk];rfl
def zfI(f:Int)(t:List Bool):Int×List Bool:=if zm (yt f t) then(0,t++[false]) else(8,t)
theorem zoO{g:XH}{i k:Nat}{f:Int}{t:List Bool}(h:Jz g i k f t)(hne:i≠k)(hl:StaL f t):Cl C (fun x=>x=i∨x=k) 154 [.s (.ptr i 0 0)] g fun u g'=>u=fi (zfI f t).1∧Jz g' i k f (zfI f t).2∧Upd (fun x=>x=i∨x=k) g g':=by
 have hP:=h;obtain⟨w,junk,h0,hi,hk⟩:=h;have li:=zd hi;have lk:=zd hk;have h2:=hl.hi;have h3:=hl.lo;refine Cl.ip rfl (zuI rfl) fun Ψ hΨ=> ?_;simp;refine zb.go0 (zcC hP hl) ?_;unfold zfI at hΨ;cases hp:zm (yt f t) with
 |false=>
  rw[hp] at hΨ;simp;exact Gh.here (hΨ _ _ ⟨rfl,hP,Upd.refl⟩)
 |true=>
  rw[hp] at hΨ;obtain⟨cs,hcs⟩:∃cs,cs=t.flatMap qa++junk:=⟨_,rfl⟩
  have hlen:cs.length=t.length+junk.length:=by rw[hcs,zuQ,zf Zg];omega
  have hcut:(if t.length=cs.length then cs else cs.take t.length)=t.flatMap qa:=by
   have e:cs.take t.length=t.flatMap qa:=by rw[hcs,show t.length=(t.flatMap qa).length by rw[zf Zg];omega,zwc];rfl
   split
   ·rename_i h;rw[←e,zvE (by omega)]
   ·exact e
  have g1:∀x,(g.set k x)[i]? =g[i]? :=fun x=>zH hne.symm;rw[←hcs] at hk;simp[rep,hi,li,hk,lk,g1,hcut,show t.length≤cs.length by omega,show t.length+1≤140737488355328 by omega];have u:Upd (fun x=>x=i∨x=k) g ((g.set k (.own (w+1) 4 1 (t.flatMap qa++[xb false]))).set i (.own 0 257 2 [xi f,.sl k (w+1) 0 (t.length+1)])):=(Upd.refl.set (.inr rfl) (by simp[lvO])).set (.inl rfl) (by simp[lvO,lk]);refine qS u (by simp) (hΨ _ _ ⟨rfl,⟨w+1,[],fun m=>by simp[zt],?_,?_⟩,u⟩)
  ·rw[yn (by simpa using li)];simp
  ·rw[zH hne,yn lk];simp
def Yh(t:List Bool):Int×List Bool:=if t.length=1 then(3,t) else if t[t.length-1]? =some true then(8,t) else(0,t.take (t.length-1))
theorem zmq{g:XH}{i k:Nat}{f:Int}{t:List Bool}(h:Jz g i k f t)(hne:i≠k)(hl:StaL f t):Cl C (fun x=>x=i) 155 [.s (.ptr i 0 0)] g fun u g'=>u=fi (Yh t).1∧Jz g' i k f (Yh t).2∧Upd (fun x=>x=i) g g':=by
 have hP:=h;obtain⟨w,junk,h0,hi,hk⟩:=h;have li:=zd hi;have lk:=zd hk;have h2:=hl.hi;have h3:=hl.lo;refine Cl.ip rfl (zuI rfl) fun Ψ hΨ=> ?_;unfold Yh at hΨ;simp[hi,li,ze (n:=(t.length:Int)-1) (by omega) (by omega)];refine zc (fun k1=> ?_) (fun k1=> ?_)
 ·simp at k1;rw[zuS (by omega)] at hΨ;simp;exact Gh.here (hΨ _ _ ⟨rfl,hP,Upd.refl⟩)
 simp at k1;rw[zuU (by omega)] at hΨ;have hn:t.length-1<t.length:=by omega
 have e1:((t.length:Int)-1).toNat=t.length-1:=by omega
 have ha:=(atX Zg hn).2.2 0 (by decide);have hfl:(t.flatMap qa).length=t.length:=by rw[zf Zg];omega
 have hb:(t.flatMap qa++junk)[t.length-1]? =some (xb t[t.length-1]):=by rw[zuN (by omega)];simpa[qa] using ha
 have hg:t[t.length-1]? =some t[t.length-1]:=zuW hn;rw[hg] at hΨ;have hbl:t.length-1≤(t.flatMap qa++junk).length:=by simp[hfl];omega
 have hcn:¬t.flatMap qa++junk=[]:=fun e=>by rw[e] at hb;simp at hb
 have hcsv:∀m,zt m (t.flatMap qa++junk):=fun m=>by simp[h0]
 have hpre:t.flatMap qa++junk=(t.take (t.length-1)).flatMap qa++(xb t[t.length-1]::junk):=by
  have e:=zu0 hn;rw[zvE (by omega)] at e;have e2:t.flatMap qa=(t.take (t.length-1)).flatMap qa++[xb t[t.length-1]]:=by
   conv=>lhs;rw[e]
   rw[zvp];rfl
  rw[e2,zvc];rfl
 generalize hcs:t.flatMap qa++junk=cs at *;simp[hi,li,hk,lk,e1,hb,show(1:Int)≤t.length by omega,show(0:Int)≤(t.length:Int)-1 by omega,show(t.length:Int)-1<t.length by omega];generalize t[t.length-1]=z at *;cases z with
 |true=>
  simp;exact Gh.here (hΨ _ _ ⟨rfl,hP,Upd.refl⟩)
 |false=>
  simp[hi,li,hk,lk,e1,hcn,hbl,show(1:Int)≤t.length by omega,show(0:Int)≤(t.length:Int)-1 by omega];have u:Upd (fun x=>x=i) g (g.set i (.own 0 257 2 [xi f,.sl k w 0 (t.length-1)])):=by refine Upd.refl.set (S:=fun x=>x=i) rfl ?_;simp[lvO,lk]
  refine zks u (by simp) (hΨ _ _ ⟨by simp,⟨w,xb false::junk,fun m=>by simp[zt,h0],?_,?_⟩,u⟩)
  ·rw[yn li];simp
  ·rw[zH hne];simp[hk,hpre]
theorem zsW{g:XH}{v:XV}{l:List Bool}(r:RdX g 4 1 qa v l)(hl:l.length≤1000000):Cl C (fun _=>False) 169 [.s v] g (qv g 4 1 l.length (l.flatMap qa)):=
 JJ (z:=1) rfl rfl rfl Zg (by decide) r (fun a=>by simp[qa]) (by omega)
theorem zil{g:XH}{i k:Nat}{f:Int}{t:List Bool}(h:Jz g i k f t)(hl:StaL f t):Cl C (fun _=>False) 95 [.s (.ptr i 0 0)] g fun u g'=>u= .s (.ptr (g.length+1) 0 0)∧∃w,g'=g++[.own w 4 1 (t.flatMap qa),.own 0 257 2 [xi f,.sl g.length w 0 t.length]]:=by obtain⟨w,junk,h0,hi,hk⟩:=h;have li:=zd hi;have lk:=zd hk;have h2:=hl.hi;refine Cl.ip rfl (zuI rfl) fun Ψ hΨ=> ?_;simp;refine zy 9 [0] (fun _=>False) (by decide) (by decide) ?_;simp only[zu7,zvC,zvh,zvd];simp[hi,li];refine zb.go (zsW (RdX.junk Zg hk) (by omega)) (fun _ _ h=>h.elim) ?_;rintro u g' ⟨w1,rfl,rfl⟩;simp;exact Gh.here (hΨ _ _ ⟨rfl,w1,rfl⟩)
def jZ(x:Pa):List XV:=[xs x.s,xs x.b,xi x.n]
theorem yk(x:Pa):(jZ x).length=3:=rfl
@[simp] theorem Qu(x:Pa)(m:Nat):zt m (jZ x):=by simp[jZ]
@[simp] theorem znq(m:Nat)(l:List Pa):zt m (l.flatMap jZ):=zP (fun a=>Qu a m) l
abbrev zgk(l:List Pa):XV:= .lst 171 3 l.length (l.flatMap jZ)
def zal(g:XH)(i:Nat)(l:List Pa):Prop:=g[i]? =some (.own 0 177 1 [zgk l])
theorem zal.app{g J:XH}{i:Nat}{l:List Pa}(h:zal g i l):zal (g++J) i l:=by unfold zal at h⊢;rw[zq (zd h)];exact h
theorem zs0(g:XH):Cl C (fun _=>False) 40 [] g fun u g'=>u= .s (.ptr g.length 0 0)∧g'=g++[.own 0 177 1 [zgk []]]:=by refine Cl.ip rfl (zuI rfl) fun Ψ hΨ=> ?_;simp;exact zqx (k:=0) rfl (.cons .nil .nil) (hΨ _ _ ⟨rfl,rfl⟩)
theorem zfP{g:XH}{i:Nat}{l:List Pa}(h:zal g i l)(hl:l.length≤1000):Cl C (fun _=>False) 91 [.s (.ptr i 0 0)] g (qv g 171 3 l.length (l.flatMap jZ)):=by have h1:g[i]? =_:=h;have li:=zd h1;refine Cl.ip rfl (zuI rfl) fun Ψ hΨ=> ?_;simp[h1,li];refine zb.go (JJ (enc:=jZ) (z:=3) (l:=l) rfl rfl rfl yk (by decide) (RdX.lst g l) (fun a=>Qu a _) (by omega)) (fun _ _ h=>h.elim) ?_;rintro u g' ⟨w,rfl,rfl⟩;simp;exact Gh.here (hΨ _ _ ⟨w,rfl,rfl⟩)
theorem zdA:∀(x y:List UInt8),Op.bytesLess x y=true∨Op.bytesLess y x=true∨x=y
 |[],[]=> .inr (.inr rfl)
 |[],_::_=> .inl (by simp[Op.bytesLess])
 |_::_,[]=> .inr (.inl (by simp[Op.bytesLess]))
 |a::x,b::y=>by
  simp only[Op.bytesLess];by_cases h1:a<b
  ·exact .inl (by simp[h1])
  by_cases h2:b<a
  ·exact .inr (.inl (by simp[h2]))
  obtain rfl:a=b:=by rw[UInt8.lt_iff_toNat_lt] at h1 h2;exact UInt8.toNat_inj.1 (by omega)
  rcases zdA x y with h|h|h
  ·exact .inl (by simp[h])
  ·exact .inr (.inl (by simp[h]))
  ·exact .inr (.inr (by rw[h]))
def cP(b:Pa):List SV:=[.str b.s,.str b.b,.int .i64 b.n]
theorem zke(l:List Pa):(l.flatMap cP).map XV.v=l.flatMap jZ:=by rw[zxm];rfl
theorem ltK_P(a b:Pa):ltK [0,1] (cP a) (cP b)=ltP a b:=by simp[ltK,cP,ltP,ltS,yT,z1]
theorem toList_inj{a b:ByteArray}(h:a.toList=b.toList):a=b:=by have:=yT a b;rw[h] at this;simp at this;exact this
theorem zeV(a b:ByteArray):ltS a b=true∨ltS b a=true∨a=b:=by
 rcases zdA a.toList b.toList with h|h|h
 ·exact .inl h
 ·exact .inr (.inl h)
 ·exact .inr (.inr (toList_inj h))
def unP(a b:Pa):Prop:=¬(a.s=b.s∧a.b=b.b)
theorem zjj{a b:Pa}(h:unP a b):(ltP a b||ltP b a)=true:=by
 unfold unP at h;simp only[ltP,zvS,zuR];rcases zeV a.s b.s with h1|h1|h1
 ·exact .inl (.inl h1)
 ·exact .inr (.inl h1)
 ·have h2:¬a.b=b.b:=fun e=>h ⟨h1,e⟩;rcases zeV a.b b.b with h3|h3|h3
  ·exact .inl (.inr ⟨by simp[h1,z1],h3⟩)
  ·exact .inr (.inr ⟨by simp[h1,z1],h3⟩)
  ·exact absurd h3 h2
theorem Q9:∀{l:List Pa},l.Pairwise unP→jx ltP l=true
 |[],_=>rfl
 |x::l,h=>by obtain⟨h1,h2⟩:=zvg.1 h;simp only[jx,zuR,zu8];exact⟨fun y hy=>zjj (h1 y hy),Q9 h2⟩
def jI(c:List Pa)(s b:ByteArray)(v:Int):List Pa:=let m:=c.filter fun x=> !Zi s b x
 if v=0 then m else m++[⟨s,b,v⟩]
def jY(c:List Pa)(s b:ByteArray)(n:Int):Int×List Pa:=
 if s.size=0∨b.size=0∨s=b∨¬za n=true then(1,c)
 else
  let v:=wr (Ye c s b+n)
  if v<0∨¬za v=true then(6,c)
  else if 8<(jI c s b v).length then(5,c) else(0,zu ltP (jI c s b v))
theorem zaZ{c:List Pa}(h:c.Pairwise unP)(s b:ByteArray)(v:Int):(jI c s b v).Pairwise unP:=by
 have h1:(c.filter fun x=> !Zi s b x).Pairwise unP:=h.sublist zwm;unfold jI;simp only;split
 ·exact h1
 ·refine zxH.2 ⟨h1,by simp,fun a ha x hx=> ?_⟩;rw[zvm] at hx;subst hx;have:=(zvP.1 ha).2;rintro⟨e1,e2⟩;simp[Zi,e1,e2,z1] at this
theorem znQ(x:Pa)(s b:ByteArray){g:XH}{i j:Nat}(hi:g[i]? =some (.own 0 9 1 [xs s]))(hj:g[j]? =some (.own 0 9 1 [xs b])):Cl C (fun _=>False) 134 [.agg (jZ x),.s (.ptr i 0 0),.s (.ptr j 0 0)] g fun u g'=>u=fb (Zi s b x)∧g'=g:=by
 have la:=zd hi;have lb:=zd hj;refine Cl.ip rfl (zuI rfl) fun Ψ hΨ=> ?_;simp[jZ,hi,hj,la,lb,yT]
 repeat' first|(refine zc (fun hc=> ?_) (fun hc=> ?_)<;>try simp[jZ,hi,hj,la,lb,yT])
 all_goals(refine Gh.pure (.s (.lt (by simp))) (hΨ _ _ ⟨?_,rfl⟩);simp at *;simp[Zi,z1, *])
theorem sortP{g:XH}{k w:Nat}{rows:List Pa}{junk:List XV}(hk:g[k]? =some (.own w 171 3 (rows.flatMap jZ++junk)))(hd:rows.Pairwise unP)(hlm:rows.length<4611686018427387904):Cl C (fun x=>x=k) 137 [.s (.sl k w 0 rows.length),.s (.v (.fn 138))] g fun u g'=>u= .tup []∧g'=g.set k (.own w 171 3 ((zu ltP rows).flatMap jZ++junk)):=by refine(za3 (o:=0) (enc:=cP) (lta:=ltP) rfl (fun _=>rfl) (by decide) (fun a v hv=>by simp[cP] at hv;rcases hv with rfl|rfl|rfl<;>rfl) (fun _=>rfl) ltK_P (l:=rows) (cs:=rows.flatMap jZ++junk) (w:=w) (k:=k) hk (by rw[zuQ,zf yk,zvt];exact zwR _ _) (by rw[zv1,zvd,←zf yk,zke,zwc];rfl) (Q9 hd) hlm).mono ?_;rintro u g' ⟨rfl,rfl⟩;refine⟨rfl,?_⟩;rw[zke,zv1];have:=ZR ((zu ltP rows).flatMap jZ) (rows.flatMap jZ) junk [] (by rw[zf yk,zf yk,zJ]);simp only[zwf,zwb] at this;rw[this]
theorem zsZ{g:XH}{i:Nat}{l:List Pa}(h:zal g i l)(hl:l.length≤100)(hd:l.Pairwise unP)(s b:ByteArray)(n:Int):Cl C (fun x=>x=i) 67 [.s (.ptr i 0 0),fs s,fs b,fi n] g fun u g'=>u=fi (jY l s b n).1∧g'=g.set i (.own 0 177 1 [zgk (jY l s b n).2]):=by
 have hP:=h;have hi:g[i]? =_:=h;have li:=zd hi;have hs:g.set i (.own 0 177 1 [zgk l])=g:=y5 hi;refine Cl.ip rfl (zuI rfl) fun Ψ hΨ=> ?_;have bad:∀(e:Int) J,jY l s b n=(e,l)→Gh (fun x=>x=i) g Ψ (fi e) (g++J):=fun e J h=>Gh.pure .i (hΨ _ _ ⟨by rw[h],by rw[h];exact hs.symm⟩)
 have e0:jY l s b n=if s.size=0∨b.size=0∨s=b∨¬za n=true then(1,l)
  else
   let v:=wr (Ye l s b+n)
   if v<0∨¬za v=true then(6,l)
   else if 8<(jI l s b v).length then(5,l) else(0,zu ltP (jI l s b v)):=rfl
 by_cases c1:s.size=0
 ·simp[show s.toList.isEmpty=true by rw[ye];exact zv8 c1];exact bad 1 _ (by rw[e0,zuS (.inl c1)])
 by_cases c2:b.size=0
 ·simp[show s.toList.isEmpty=false by rw[ye];exact zv5 c1,show b.toList.isEmpty=true by rw[ye];exact zv8 c2];exact bad 1 _ (by rw[e0,zuS (.inr (.inl c2))])
 simp[show s.toList.isEmpty=false by rw[ye];exact zv5 c1,show b.toList.isEmpty=false by rw[ye];exact zv5 c2,yT];refine zc (fun c3=> ?_) (fun c3=> ?_)
 ·simp at c3;simp;exact bad 1 _ (by rw[e0,zuS (.inr (.inr (.inl c3)))])
 simp at c3;simp;refine zb.pure (z7 ..) ?_;simp;refine zc (fun c4=> ?_) (fun c4=> ?_)
 rotate_left
 ·simp;exact bad 1 _ (by rw[e0,zuS (.inr (.inr (.inr (by simp[c4]))))])
 rw[zuU (by simp[c1,c2,c3,c4])] at e0;simp[hi,li];refine zb.go0 (Yq (q:=Zi s b) (f:=135) rfl yk (by decide) (RdX.lst _ l) (by omega) (.inr ⟨g.length+2,134,[],[.s (.ptr g.length 0 0),.s (.ptr (g.length+1) 0 0)],rfl,by simp,fun x _=>znQ x s b (by simp) (by simp)⟩)) ?_;rcases YW (Zi s b) l 0 with⟨f1,f2⟩|⟨q,f1,hq,f2⟩
 ·have hpr:Ye l s b=0:=by unfold Ye;rw[f2]
  simp[f1];have e1:jY l s b n=if wr n<0∨¬za (wr n)=true then(6,l) else if 8<(jI l s b (wr n)).length then(5,l) else(0,zu ltP (jI l s b (wr n))):=by rw[e0];simp only[hpr,zxD]
  have hun:=zaZ hd s b (wr n);have hrl:(l.filter fun x=> !Zi s b x).length≤100:=zvB (zwa _ _) hl
  try simp
  refine zc (fun k1=> ?_) (fun k1=> ?_)
  ·simp at k1;simp;exact bad 6 _ (by rw[e1,zuS (.inl k1)])
  simp at k1;simp;refine zb.pure (z7 ..) ?_;simp;refine zc (fun k2=> ?_) (fun k2=> ?_)
  rotate_left
  ·simp;exact bad 6 _ (by rw[e1,zuS (.inr (by simp[k2]))])
  rw[zuU (by simp[k2];omega)] at e1;simp;refine zb.go (zfP hP.app (by omega)) (fun _ _ h=>h.elim) ?_;rintro u g' ⟨w1,rfl,rfl⟩;simp;refine zb.go (zcl (fi':=135) (q:=Zi s b) rfl rfl (by decide) rfl rfl yk (k:=g.length+3) (w:=w1) (l:=l) (junk:=[]) (by simp) (by omega) (fun a m=>Qu a m) (fun m=>by simp[zt]) (fun cells J=> .inr ⟨g.length+2,134,[],[.s (.ptr g.length 0 0),.s (.ptr (g.length+1) 0 0)],rfl,by simp,fun x _=>znQ x s b (by simp) (by simp)⟩)) (fun x hx e=> .inl (by omega)) ?_;rintro u g' ⟨junk,hj,rfl,rfl⟩;simp;by_cases hz:wr n=0
  ·skip
   rw[show jI l s b (wr n)=l.filter fun x=> !Zi s b x by unfold jI;simp[hz]] at e1 hun;generalize(l.filter fun x=> !Zi s b x)=M at *;have hml:=zf yk M;simp[hz];refine zc (fun k3=> ?_) (fun k3=> ?_)
   ·simp at k3;simp;exact bad 5 _ (by rw[e1,zuS (by omega)])
   simp at k3;rw[zuU (by omega)] at e1;have hil:=zJ ltP (M);have hS:=fun G (hk:G[g.length+3]? =_)=>sortP (g:=G) (k:=g.length+3) (w:=w1) (rows:=M) (junk:=junk) hk hun (by first|omega|(simp;omega))
   try simp only[zuQ,zuV,zvj] at hS hil
   try simp
   refine zb.go (hS _ (by simp[jZ])) (fun x hx e=> .inl (by omega)) ?_;rintro u g' ⟨rfl,rfl⟩;simp[hi,li];rw[←hil];refine Gh.fz (g2:=g.set i (.own 0 177 1 [zgk (zu ltP (M))])) (FzH.put (W:=fun x=>x=i) FzH.refl i 0 177 1 rfl (.cons ?_ .nil)) .i (hΨ _ _ ⟨by rw[e1],by rw[e1]⟩);refine FzV.junk (n0:=g.length) (i:=g.length+3) (cs:=(zu ltP (M)).flatMap jZ) (junk:=junk) (w:=w1) (t:=171) (z:=3) (by omega) (fun j=>by simp) (by simp) (by rw[zf yk]) (by simp) (by simp[zt,hj])
  ·skip
   rw[show jI l s b (wr n)=(l.filter fun x=> !Zi s b x)++[⟨s,b,wr n⟩] by unfold jI;simp[hz]] at e1 hun;generalize(l.filter fun x=> !Zi s b x)=M at *;have hml:=zf yk M;obtain⟨cs,hcs⟩:∃cs,cs=M.flatMap jZ++junk:=⟨_,rfl⟩
   have hcl:cs.length=M.length*3+junk.length:=by rw[hcs,zuQ,hml]
   have hcut:(if M.length*3=cs.length then cs else cs.take (M.length*3))=M.flatMap jZ:=by
    have e:cs.take (M.length*3)=M.flatMap jZ:=by rw[hcs,←hml,zwc];rfl
    split
    ·rename_i h;rw[←e,zvE (by omega)]
    ·exact e
   rw[←hcs];simp[show(wr n !=0)=true by simpa using hz,hcut,show M.length*3≤cs.length by omega,show(M.length+1)*40≤140737488355328 by omega];refine zc (fun k3=> ?_) (fun k3=> ?_)
   ·simp at k3;simp;exact bad 5 _ (by rw[e1,zuS (by simp;omega)])
   simp at k3;rw[zuU (by simp;omega)] at e1;have hil:=zJ ltP (M++[⟨s,b,wr n⟩]);have hS:=fun G (hk:G[g.length+3]? =_)=>sortP (g:=G) (k:=g.length+3) (w:=w1+1) (rows:=M++[⟨s,b,wr n⟩]) (junk:=[]) hk hun (by first|omega|(simp;omega))
   try simp only[zuQ,zuV,zvj] at hS hil
   try simp
   refine zb.go (hS _ (by simp[jZ])) (fun x hx e=> .inl (by omega)) ?_;rintro u g' ⟨rfl,rfl⟩;simp[hi,li];rw[←hil];refine Gh.fz (g2:=g.set i (.own 0 177 1 [zgk (zu ltP (M++[(⟨s,b,wr n⟩:Pa)]))])) (FzH.put (W:=fun x=>x=i) FzH.refl i 0 177 1 rfl (.cons ?_ .nil)) .i (hΨ _ _ ⟨by rw[e1],by rw[e1]⟩);exact .fl (t:=171) yk (fun m a=>Qu a m) (by omega) (by simp)
 ·have hpr:Ye l s b=l[q].n:=by unfold Ye;rw[f2]
  rw[zvt] at f1;have a3:=(atX yk hq).2.2 2 (by decide);simp[jZ] at a3;generalize l[q].n=has at *;simp[f1,hi,li,hq,a3];have e1:jY l s b n=if wr (has+n)<0∨¬za (wr (has+n))=true then(6,l) else if 8<(jI l s b (wr (has+n))).length then(5,l) else(0,zu ltP (jI l s b (wr (has+n)))):=by rw[e0];simp only[hpr,zxD]
  have hun:=zaZ hd s b (wr (has+n));have hrl:(l.filter fun x=> !Zi s b x).length≤100:=zvB (zwa _ _) hl
  try simp
  refine zc (fun k1=> ?_) (fun k1=> ?_)
  ·simp at k1;simp;exact bad 6 _ (by rw[e1,zuS (.inl k1)])
  simp at k1;simp;refine zb.pure (z7 ..) ?_;simp;refine zc (fun k2=> ?_) (fun k2=> ?_)
  rotate_left
  ·simp;exact bad 6 _ (by rw[e1,zuS (.inr (by simp[k2]))])
  rw[zuU (by simp[k2];omega)] at e1;simp;refine zb.go (zfP hP.app (by omega)) (fun _ _ h=>h.elim) ?_;rintro u g' ⟨w1,rfl,rfl⟩;simp;refine zb.go (zcl (fi':=135) (q:=Zi s b) rfl rfl (by decide) rfl rfl yk (k:=g.length+3) (w:=w1) (l:=l) (junk:=[]) (by simp) (by omega) (fun a m=>Qu a m) (fun m=>by simp[zt]) (fun cells J=> .inr ⟨g.length+2,134,[],[.s (.ptr g.length 0 0),.s (.ptr (g.length+1) 0 0)],rfl,by simp,fun x _=>znQ x s b (by simp) (by simp)⟩)) (fun x hx e=> .inl (by omega)) ?_;rintro u g' ⟨junk,hj,rfl,rfl⟩;simp;by_cases hz:wr (has+n)=0
  ·skip
   rw[show jI l s b (wr (has+n))=l.filter fun x=> !Zi s b x by unfold jI;simp[hz]] at e1 hun;generalize(l.filter fun x=> !Zi s b x)=M at *;have hml:=zf yk M;simp[hz];refine zc (fun k3=> ?_) (fun k3=> ?_)
   ·simp at k3;simp;exact bad 5 _ (by rw[e1,zuS (by omega)])
   simp at k3;rw[zuU (by omega)] at e1;have hil:=zJ ltP (M);have hS:=fun G (hk:G[g.length+3]? =_)=>sortP (g:=G) (k:=g.length+3) (w:=w1) (rows:=M) (junk:=junk) hk hun (by first|omega|(simp;omega))
   try simp only[zuQ,zuV,zvj] at hS hil
   try simp
   refine zb.go (hS _ (by simp[jZ])) (fun x hx e=> .inl (by omega)) ?_;rintro u g' ⟨rfl,rfl⟩;simp[hi,li];rw[←hil];refine Gh.fz (g2:=g.set i (.own 0 177 1 [zgk (zu ltP (M))])) (FzH.put (W:=fun x=>x=i) FzH.refl i 0 177 1 rfl (.cons ?_ .nil)) .i (hΨ _ _ ⟨by rw[e1],by rw[e1]⟩);refine FzV.junk (n0:=g.length) (i:=g.length+3) (cs:=(zu ltP (M)).flatMap jZ) (junk:=junk) (w:=w1) (t:=171) (z:=3) (by omega) (fun j=>by simp) (by simp) (by rw[zf yk]) (by simp) (by simp[zt,hj])
  ·skip
   rw[show jI l s b (wr (has+n))=(l.filter fun x=> !Zi s b x)++[⟨s,b,wr (has+n)⟩] by unfold jI;simp[hz]] at e1 hun;generalize(l.filter fun x=> !Zi s b x)=M at *;have hml:=zf yk M;obtain⟨cs,hcs⟩:∃cs,cs=M.flatMap jZ++junk:=⟨_,rfl⟩
   have hcl:cs.length=M.length*3+junk.length:=by rw[hcs,zuQ,hml]
   have hcut:(if M.length*3=cs.length then cs else cs.take (M.length*3))=M.flatMap jZ:=by
    have e:cs.take (M.length*3)=M.flatMap jZ:=by rw[hcs,←hml,zwc];rfl
    split
    ·rename_i h;rw[←e,zvE (by omega)]
    ·exact e
   rw[←hcs];simp[show(wr (has+n) !=0)=true by simpa using hz,hcut,show M.length*3≤cs.length by omega,show(M.length+1)*40≤140737488355328 by omega];refine zc (fun k3=> ?_) (fun k3=> ?_)
   ·simp at k3;simp;exact bad 5 _ (by rw[e1,zuS (by simp;omega)])
   simp at k3;rw[zuU (by simp;omega)] at e1;have hil:=zJ ltP (M++[⟨s,b,wr (has+n)⟩]);have hS:=fun G (hk:G[g.length+3]? =_)=>sortP (g:=G) (k:=g.length+3) (w:=w1+1) (rows:=M++[⟨s,b,wr (has+n)⟩]) (junk:=[]) hk hun (by first|omega|(simp;omega))
   try simp only[zuQ,zuV,zvj] at hS hil
   try simp
   refine zb.go (hS _ (by simp[jZ])) (fun x hx e=> .inl (by omega)) ?_;rintro u g' ⟨rfl,rfl⟩;simp[hi,li];rw[←hil];refine Gh.fz (g2:=g.set i (.own 0 177 1 [zgk (zu ltP (M++[(⟨s,b,wr (has+n)⟩:Pa)]))])) (FzH.put (W:=fun x=>x=i) FzH.refl i 0 177 1 rfl (.cons ?_ .nil)) .i (hΨ _ _ ⟨by rw[e1],by rw[e1]⟩);exact .fl (t:=171) yk (fun m a=>Qu a m) (by omega) (by simp)
def QJ:List Pa→List Int→Int
 |b::l,r::s=>zg b.n r+QJ l s
 |_,_=>0
theorem zes:∀(l:List Pa) (s:List Int) (k:Nat) (h1:k<l.length) (h2:k<s.length),QJ (l.take (k+1)) (s.take (k+1))=QJ (l.take k) (s.take k)+zg l[k].n s[k]
 |[],_,k,h1,_=>by simp at h1
 |_::_,[],k,_,h2=>by simp at h2
 |b::l,r::s,0,_,_=>by simp[QJ]
 |b::l,r::s,k+1,h1,h2=>by simp only[zu7,QJ,zwi];rw[zes l s k (by simpa using h1) (by simpa using h2)];omega
theorem zka:∀(l:List Pa) (s:List Int),-(4000000000001*(l.length:Int))≤QJ l s∧QJ l s≤4000000000001*(l.length:Int)
 |[],_=>by simp[QJ]
 |b::l,[]=>by simp[QJ];omega
 |b::l,r::s=>by have h1:=zka l s;have h2:=zF b.n r;simp only[QJ,zvw,zww,zw8];omega
def zdP:List Pa→List Int→Bool
 |b::l,r::s=>zn r&& !decide (b.n<0)&&za b.n&&zdP l s
 |_,_=>true
theorem zkL:∀(l:List Pa) (s:List Int) (k:Nat) (h1:k<l.length) (h2:k<s.length),zdP l s=true→(zn s[k]&& !decide (l[k].n<0)&&za l[k].n)=true
 |[],_,k,h1,_,_=>by simp at h1
 |_::_,[],k,_,h2,_=>by simp at h2
 |b::l,r::s,0,_,_,h=>by simp only[zdP,zuR] at h;simpa[zuR] using h.1
 |b::l,r::s,k+1,h1,h2,h=>by simp only[zdP,zuR] at h;exact zkL l s k (by simpa using h1) (by simpa using h2) h.2
theorem zhV:∀(l:List Pa) (s:List Int),(∀(k:Nat) (h1:k<l.length) (h2:k<s.length),(zn s[k]&& !decide (l[k].n<0)&&za l[k].n)=true)→zdP l s=true
 |[],_,_=>rfl
 |_::_,[],_=>rfl
 |b::l,r::s,h=>by have h0:=h 0 (by simp) (by simp);rw[zdP,zuR];exact⟨h0,zhV l s fun k h1 h2=>h (k+1) (by simpa using h1) (by simpa using h2)⟩
def zg4(l:List Pa)(s:List Int):Int×Int:=if s.length≠l.length then(0,1) else if zdP l s then(if za (QJ l s) then(QJ l s,0) else(0,6)) else(0,1)
theorem zng{g:XH}{v u:XV}{l:List Pa}{s:List Int}(hr:RdX g 171 3 jZ v l)(hs:RdX g 3 1 zR u s)(hl:l.length≤1000):
 Cl C (fun _=>False) 93 [.s v,.s u] g fun u g'=>u= .tup [fi (zg4 l s).1,fi (zg4 l s).2]∧g'=g:=by
 refine Cl.ip rfl (zuI rfl) fun Ψ hΨ=> ?_;simp[hr.len,hs.len];refine zc (fun hc=> ?_) (fun hc=> ?_)
 ·simp at hc;replace hc:¬s.length=l.length:=by omega
  simp;exact Gh.here (hΨ _ _ ⟨by simp[zg4,hc],rfl⟩)
 simp at hc;replace hc:s.length=l.length:=by omega
 simp[hr.len,hs.len];have bad:∀J,zdP l s=false→Gh (fun _=>False) g Ψ (.tup [fi 0,fi 1]) (g++J):=fun J h=>Gh.pure (.t2 .i .i) (hΨ _ _ ⟨by simp[zg4,hc,h],rfl⟩);refine Lp.genU (σ:=Unit) l.length (fun k _=>[(6,fi (QJ (l.take k) (s.take k))),(18,fi k)]) (fun _ _=>g) (fun k _=>∀(j:Nat),j<k→∀(h1:j<l.length) (h2:j<s.length),(zn s[j]&& !decide (l[j].n<0)&&za l[j].n)=true) () (by decide) rfl (by simp[QJ]) rfl (by omega) ?_ ?_
 ·rintro q hq ⟨⟩ hP hlt N hN;obtain⟨p1,cs,o,b1,b2,b3,b4,b5,_⟩:=hr.atJ yk (by decide) hq;obtain⟨p2,cs2,o2,c1,c2,c3,c4⟩:=hs.at1 zG (k:=q) (by omega);have e1:=zes l s q hq (by omega);have hb:=zka (l.take q) (s.take q);have hb2:=zF l[q].n s[q];rw[zu5,zvA (by omega)] at hb;have hw:IntKind.i64.wrap (QJ (l.take q) (s.take q)+zg l[q].n s[q])=QJ (l.take (q+1)) (s.take (q+1)):=by rw[e1];exact ze (by omega) (by omega)
  have hno:(zn s[q]&& !decide (l[q].n<0)&&za l[q].n)=false→zdP l s=false:=fun h=>by
   cases h2:zdP l s with
   |false=>rfl
   |true=>exact absurd (zkL l s q hq (by omega) h2) (by rw[h];exact Bool.false_ne_true)
  simp[l93_0,hq,b1,b2,b3,b4,b5,c1,c2,c3,c4,jZ,zR];refine zb.pure (q7 ..) ?_;simp;refine zc (fun h1=> ?_) (fun h1=> ?_)
  ·simp;refine zc (fun h2=> ?_) (fun h2=> ?_)
   ·simp at h2;simp;exact bad _ (hno (by simp[h1,h2]))
   ·simp at h2;simp;refine zb.pure (z7 ..) ?_;simp;refine zc (fun h3=> ?_) (fun h3=> ?_)
    ·simp[c1,c2,c3,c4,zR];refine zb.pure (ofX ..) ?_;simp[hw,yr hq (by omega)];exact J4 () hN (fun j hj a b=>if e:j<q then hP j e a b else by
      obtain rfl:j=q:=by omega
      simp only[h1,h3,zxJ,zxe,zwW,zvK];omega) (by simp) (by simpa using hlt)
    ·simp;exact bad _ (hno (by simp[h3]))
  ·simp;exact bad _ (hno (by simp[h1]))
 ·rintro⟨⟩ hP;have hok:zdP l s=true:=zhV l s fun k h1 h2=>hP k h1 h1 h2;rw[zu9,zvE (by omega)];simp[l93_0];refine zb.pure (z7 ..) ?_;simp;refine zc (fun h1=> ?_) (fun h1=> ?_)
  ·simp;exact Gh.here (hΨ _ _ ⟨by simp[zg4,hc,hok,h1],rfl⟩)
  ·simp;exact Gh.here (hΨ _ _ ⟨by simp[zg4,hc,hok,h1],rfl⟩)
def JH(m l:Int):Bool:=zn m&&yN l
theorem zsk(m l:Int):Pure C 130 [fi m,fi l] (fb (JH m l)):=by
 refine Pure.intro0 (e:=e130) rfl (zuI rfl) (by simp) fun g Ψ h0 hJ=> ?_;simp;refine zb.pure (q7 ..) ?_;simp;refine zc (fun h1=> ?_) (fun h1=> ?_)
 ·simp;refine zc (fun h2=> ?_) (fun h2=> ?_)
  ·simp;exact qV h0 (by simp at h2;simp[JH,yN,h1,h2])
  ·simp;exact qV h0 (by simp at h2;simp[JH,yN,h1];omega)
 ·simp;exact qV h0 (by simp[JH,h1])
theorem zkb{g:XH}{b:Bal}(h:BalL b):Cl C (fun _=>False) 157 [.agg (zi b)] g fun u g'=>u= .agg (zi b)∧g'=g:=by have h1:=h.lb;have h2:=h.lr;refine Cl.ip rfl (zuI rfl) fun Ψ hΨ=> ?_;simp[zi];refine zy 5 [1] (fun _=>False) (by decide) (by decide) ?_;simp only[zu7,zvC,zvh,zvd];simp;refine zb.go0 (znd (RdX.lst _ b.b) (by omega)) ?_;simp;refine zb.go0 (zfH (RdX.lst _ b.r) (by omega)) ?_;simp;exact Gh.pure (u':= .agg (zi b)) (.agg (.lts (Qt _ b))) (hΨ _ _ ⟨rfl,rfl⟩)
structure ProC(p:Pro):Prop where
 op:BalL p.op
 cl:BalL p.cl
 lv:p.cur.vec.length≤1000
 lr:p.rows.length≤1000
 ln:p.now.length≤1000
set_option maxRecDepth 8000 in
theorem zjA{g:XH}{p:Pro}(h:ProC p):Cl C (fun _=>False) 80 [.agg (zC p)] g fun u g'=>u= .agg (zC p)∧g'=g:=by have h1:=h.op;have h2:=h.cl;have h3:=h.lv;have h4:=h.lr;have h5:=h.ln;refine Cl.ip rfl (zuI rfl) fun Ψ hΨ=> ?_;simp[zC,pC,zQ,zi,zD];refine zy 5 [1] (fun _=>False) (by decide) (by decide) ?_;simp only[zu7,zvC,zvh,zvd];simp;refine zb.go0 (zkb h1) ?_;simp[zi];refine zb.go0 (zkb h2) ?_;simp[zi];refine zy 9 [1] (fun _=>False) (by decide) (by decide) ?_;simp only[zu7,zvC,zvh,zvd];simp;refine zb.go0 (zfH (RdX.lst _ p.cur.vec) (by omega)) ?_;simp;refine zb.go0 (zsX (RdX.lst _ p.rows) (by omega)) ?_;simp;refine zb.go0 (zfH (RdX.lst _ p.now) (by omega)) ?_;simp;exact Gh.pure (u':= .agg (zC p)) (.agg (.lts (Qv _ p))) (hΨ _ _ ⟨rfl,rfl⟩)
end
end Go.Proofs.YtdmcfjkgopmlgaaGreatDoor.Ev.CA
namespace Go.Proofs.YtdmcfjkgopmlgaaGreatDoor.Ev
open Go
section
attribute [-simp] List.length_flatMap getElem?_pos
theorem GhF.refl(m:Nat):∀fr:XFr,GhF m fr fr
 |[]=>trivial
 |(n,some a)::r=>⟨rfl,.inl rfl,GhF.refl m r⟩
 |(n,none)::r=>⟨rfl,GhF.refl m r⟩
theorem Lp.ghostH{C:Nat→Option EF}{B:Nat→Prop}{keep:List Nat}{b:EC}{Φ:Ex→XFr→XH→Prop}(t z:Nat){fr:XFr}{g g2:XH}(hz:FzH B g.length [] [none] [.own 0 t z []] g g g2)(w:Lp C B keep b fr (g2++[.own 0 t z []]) Φ):Lp C B keep b fr g Φ:=by
 rintro R fr1 rfl H h;obtain⟨a1,a2,a3⟩:=zbf H H (Ex2.refl B R) (J:=[]) (by simp) hz;have:=w (R.done R.g.length g2 [none] [.own 0 t z []]) fr1 rfl a2 (h.ghost (fun a b hl r=>RF.done a3 a b hl r) (fun b r=>by
  have:FzF R.g.length [] [none] [.own 0 t z []] (.s (.v .nils)) (.s (.sl (R.g.length+0) 0 0 0)):= .s (.gh (j:=0) (t:=t) (z:=z) rfl rfl);exact this.sound a3 b r) rfl (GhF.refl _ _))
 exact this.mono fun _ _ _=>Pk.trans a1
theorem Lp.ghostAt{C:Nat→Option EF}{B:Nat→Prop}{keep:List Nat}{b:EC}{Φ:Ex→XFr→XH→Prop}(t z:Nat){fr:XFr}{g:XH}{n0 i w T Z:Nat}{cs cs':List XV}(hn:g.length=n0)(hi:g[i]? =some (.own w T Z cs))(hB:B i)(ho:FzVs n0 [] [none] [.own 0 t z []] cs cs')(h:Lp C B keep b fr (g.set i (.own w T Z cs')++[.own 0 t z []]) Φ):Lp C B keep b fr g Φ:=by
 subst hn;refine Lp.ghostH t z ?_ h;have e:g.set i (.own w T Z cs)=g:=by
  refine zv6 fun j=> ?_;by_cases hj:i=j
  ·subst hj;rw[zu3 (zuM.1 hi).1,hi]
  ·rw[zuT hj]
 have h0:FzH B g.length [] [none] [.own 0 t z []] g g g:=⟨rfl,rfl,fun i o e=> .inl ⟨e,.inl e⟩,rfl,fun j j' k e e'=>by
  match j with
  |0=>simp at e
  |n+1=>simp at e,fun j o e=>by
  match j with
  |0=>simp at e;exact .inl ⟨rfl,t,z,e.symm⟩
  |n+1=>simp at e⟩
 have h1:=h0.put i w T Z hB ho
 rwa [e] at h1
def KOs(n0:Nat)(J:XH)(K:List (Option Nat))(O:XH):List (Option Nat)→XH→Prop
 |[],[]=>True
 |none::ks,o::os=>(∃t z,o= .own 0 t z [])∧KOs n0 J K O ks os
 |some k::ks,o::os=>(∃w t z cs cs',J[k]? =some (.own w t z cs)∧o= .own w t z cs'∧FzVs n0 J K O cs cs')∧KOs n0 J K O ks os
 |_,_=>False
theorem KOs.at{n0:Nat}{J:XH}{K:List (Option Nat)}{O:XH}:∀{ks:List (Option Nat)} {os:XH},KOs n0 J K O ks os→ks.length=os.length∧∀(j:Nat) (o:XO),os[j]? =some o→(ks[j]? =some none∧∃t z,o= .own 0 t z [])∨∃k w t z cs cs',ks[j]? =some (some k)∧J[k]? =some (.own w t z cs)∧o= .own w t z cs'∧FzVs n0 J K O cs cs'
 |[],[],_=>⟨rfl,fun j o e=>by simp at e⟩
 |none::ks,o::os,h=>by
  obtain⟨h1,h2⟩:=h;obtain⟨h3,h4⟩:=KOs.at h2;refine⟨by simp[h3],fun j p e=> ?_⟩;cases j with
  |zero=>simp at e;subst e;exact .inl ⟨rfl,h1⟩
  |succ j=>exact h4 j p (by simpa using e)
 |some k::ks,o::os,h=>by
  obtain⟨⟨w,t,z,cs,cs',h1,h5,h6⟩,h2⟩:=h;obtain⟨h3,h4⟩:=KOs.at h2;refine⟨by simp[h3],fun j p e=> ?_⟩;cases j with
  |zero=>simp at e;subst e;exact .inr ⟨k,w,t,z,cs,cs',rfl,h1,h5,h6⟩
  |succ j=>exact h4 j p (by simpa using e)
 |[],_::_,h=>by simp[KOs] at h
 |none::_,[],h=>by simp[KOs] at h
 |some _::_,[],h=>by simp[KOs] at h
def zay:List (Option Nat)→Bool
 |[]=>true
 |none::r=>zay r
 |some k::r=> !r.contains (some k)&&zay r
theorem zc1:∀{K:List (Option Nat)},zay K=true→∀(j j' k:Nat),K[j]? =some (some k)→K[j']? =some (some k)→j=j'
 |[],_,j,_,k,e,_=>by simp at e
 |x::r,h,0,0,k,_,_=>rfl
 |x::r,h,0,j'+1,k,e,e'=>by
  simp at e e';subst e;simp[zay] at h;exact absurd (zvu e') h.1
 |x::r,h,j+1,0,k,e,e'=>by
  simp at e e';subst e';simp[zay] at h;exact absurd (zvu e) h.1
 |x::r,h,j+1,j'+1,k,e,e'=>by
  have h':zay r=true:=by
   cases x with
   |none=>exact h
   |some a=>simp[zay] at h;exact h.2
  rw[zc1 h' j j' k (by simpa using e) (by simpa using e')]
theorem zlN{W:Nat→Prop}{g J:XH}{K:List (Option Nat)}{O:XH}(hd:zay K=true)(h:KOs g.length J K O K O):FzH W g.length J K O g g g:=
 ⟨rfl,rfl,fun i o e=> .inl ⟨e,.inl e⟩,h.at.1,zc1 hd,h.at.2⟩
end
end Go.Proofs.YtdmcfjkgopmlgaaGreatDoor.Ev
namespace Go.Proofs.YtdmcfjkgopmlgaaGreatDoor.Ev.CA
open Go
section
attribute [-simp] List.length_flatMap getElem?_pos
abbrev zbh(s:Sta)(f:XV):List XV:=[xi s.book,xi s.perm,xi s.judge,xi s.cap,xi s.life,xi s.up,f,lpV s.l]
def yf(c:Clo):List XV:=zbh c.was (Yt c.was.filed)++(zC c.p++[xi c.seq])
theorem qR(c:Clo):(yf c).length=50:=by simp[yf,YU]
@[simp] theorem zlA(c:Clo)(m:Nat):zt m (yf c):=by simp[yf,zC,pC,zQ,zi,zD]
@[simp] theorem zi1(m:Nat)(l:List Clo):zt m (l.flatMap yf):=zP (fun a=>zlA a m) l
structure Eo where
 i:Nat
 st:Nat
 sk:Nat
 r:Nat
 c:Nat
 f:Nat
def Eo.ids(o:Eo):List Nat:=[o.i,o.st,o.sk,o.r,o.c,o.f]
abbrev zcd(e:Ent)(o:Eo)(w wf:Nat):List XV:=[xs e.id,xs e.j,.ptr o.st 0 0]++zbh e.s (.sl o.f wf 0 e.s.filed.length)++[.ptr o.r 0 0,.sl o.c w 0 e.cs.length,xi e.first]
structure EntP(g:XH)(o:Eo)(e:Ent):Prop where
 nd:o.ids.Nodup
 i:∃w wf junk,(∀m,zt m junk)∧g[o.i]? =some (.own 0 108 14 (zcd e o w wf))∧g[o.c]? =some (.own w 159 50 (e.cs.flatMap yf++junk))∧g[o.f]? =some (.own wf 3 1 (e.s.filed.flatMap zR))
 st:Jz g o.st o.sk e.first e.touched
 r:Ym g o.r e.s.reg
theorem EntP.same{g G:XH}{o:Eo}{e:Ent}(h:EntP g o e)(hs:∀i∈o.ids,G[i]? =g[i]?):EntP G o e:=by
 obtain⟨nd,⟨w,wf,junk,h0,h1,h2,h3⟩,⟨w2,j2,h4,h5,h6⟩,h7⟩:=h;have q:∀i,i∈o.ids→G[i]? =g[i]? :=hs;refine⟨nd,⟨w,wf,junk,h0,?_,?_,?_⟩,⟨w2,j2,h4,?_,?_⟩,?_⟩
 ·rw[q _ (by simp[Eo.ids])];exact h1
 ·rw[q _ (by simp[Eo.ids])];exact h2
 ·rw[q _ (by simp[Eo.ids])];exact h3
 ·rw[q _ (by simp[Eo.ids])];exact h5
 ·rw[q _ (by simp[Eo.ids])];exact h6
 ·unfold Ym at h7⊢;rw[q _ (by simp[Eo.ids])];exact h7
theorem EntP.lt{g:XH}{o:Eo}{e:Ent}(h:EntP g o e):∀i∈o.ids,i<g.length:=by
 obtain⟨nd,⟨w,wf,junk,h0,h1,h2,h3⟩,⟨w2,j2,h4,h5,h6⟩,h7⟩:=h;simp only[Eo.ids,zu2,zv3,or_false];rintro i (rfl|rfl|rfl|rfl|rfl|rfl)
 ·exact zd h1
 ·exact zd h5
 ·exact zd h6
 ·exact zd h7
 ·exact zd h2
 ·exact zd h3
theorem EntP.app{g J:XH}{o:Eo}{e:Ent}(h:EntP g o e):EntP (g++J) o e:=h.same fun i hi=>zq (h.lt i hi)
structure EntL(e:Ent):Prop where
 st:StaL e.first e.touched
 lo:LosI e.s.l
 reg:QZ e.s.reg
 rl:e.s.reg.length≤400
 rd:jx ltB e.s.reg=true
 fl:e.s.filed.length≤1000
 cl:e.cs.length+1=e.touched.length
 cs:∀c∈e.cs,ProC c.p∧ProL c.p∧LosI c.was.l∧c.was.filed.length≤1000∧za c.p.cur.tax=true
def Zh(id j:ByteArray)(most life first:Int):Prop:=¬id.size=0∧¬j.size=0∧JH most life=true∧zm first=true
instance (id j:ByteArray)(most life first:Int):Decidable (Zh id j most life first):=by unfold Zh;infer_instance
def yZ(id j:ByteArray)(fx most life first:Int):Ent:=⟨id,j,fx,first,[false],⟨0,0,0,most,life,0,[],[],[]⟩,[]⟩
theorem zta(g:XH)(id j:ByteArray)(fx most life first:Int):Cl C (fun _=>False) 66 [fs id,fs j,fi most,fi life,fi first] g fun u g'=>
 if Zh id j most life first then∃o J,(∀i∈o.ids,g.length≤i)∧u= .tup [.s (.ptr o.i 0 0),fi 0]∧g'=g++J∧EntP g' o (yZ id j fx most life first) else u= .tup [.s (.v .nilp),fi 1]∧g'=g:=by
 refine Cl.ip rfl (zuI rfl) fun Ψ hΨ=> ?_;have bad:∀J,¬Zh id j most life first→Gh (fun _=>False) g Ψ (.tup [.s (.v .nilp),fi 1]) (g++J):=fun J h=>Gh.pure (.t2 (.s (.lt (by simp))) .i) (hΨ _ _ (by rw[zuU h];exact⟨rfl,rfl⟩))
 by_cases c1:id.size=0
 ·simp[show id.toList.isEmpty=true by rw[ye];exact zv8 c1];have:=bad [] fun h=>h.1 c1;simpa using this
 by_cases c2:j.size=0
 ·simp[show id.toList.isEmpty=false by rw[ye];exact zv5 c1,show j.toList.isEmpty=true by rw[ye];exact zv8 c2];have:=bad [] fun h=>h.2.1 c2;simpa using this
 simp[show id.toList.isEmpty=false by rw[ye];exact zv5 c1,show j.toList.isEmpty=false by rw[ye];exact zv5 c2];refine zb.pure (zsk ..) ?_;simp;refine zc (fun c3=> ?_) (fun c3=> ?_)
 rotate_left
 ·simp;have:=bad [] fun h=>by have:=h.2.2.1;rw[c3] at this;cases this
  simpa using this
 simp;refine zb.pure (Zc ..) ?_;simp;refine zc (fun c4=> ?_) (fun c4=> ?_)
 rotate_left
 ·simp;have:=bad [] fun h=>by have:=h.2.2.2;rw[c4] at this;cases this
  simpa using this
 have hok:Zh id j most life first:=⟨c1,c2,c3,c4⟩
 simp;have hS:=zud g first
 simp only[c4,if_true] at hS;refine zb.go hS (fun _ _ h=>h.elim) ?_;rintro u g' ⟨rfl,rfl⟩;simp;refine zb.go (ztw _) (fun _ _ h=>h.elim) ?_;rintro u g' ⟨rfl,rfl⟩;simp;refine zb.go (zt0 _) (fun _ _ h=>h.elim) ?_;rintro u g' ⟨rfl,rfl⟩;simp;have lx:∀n:Int,lvV g.length (xi n):=fun n=>by simp
 refine Gh.keep [some 0,some 1,some 2,some 3,none,none] [.own 0 4 1 [xb false],.own 0 257 2 [xi first,.sl g.length 0 0 1],.own 0 263 1 [.lst 261 3 0 []],.own 0 108 14 (zcd (yZ id j fx most life first) ⟨g.length+3,g.length+1,g.length,g.length+2,g.length+4,g.length+5⟩ 0 0),.own 0 159 50 [],.own 0 3 1 []] (zlN rfl ⟨⟨_,_,_,_,_,rfl,rfl,.cons (.lt (by simp)) .nil⟩,⟨_,_,_,_,_,rfl,rfl,.cons (.lt (by simp)) (.cons (.ksl (j:=0) (k:=0) rfl) .nil)⟩,⟨_,_,_,_,_,rfl,rfl,.lts (by simp)⟩,⟨_,_,_,_,_,rfl,rfl,?_⟩,⟨_,_,rfl⟩,⟨_,_,rfl⟩,trivial⟩) (.t2 (.s (.kptr (j:=3) (k:=3) rfl)) .i) (hΨ _ _ ?_)
 ·exact .cons (.lt (by simp)) (.cons (.lt (by simp)) (.cons (.kptr (j:=1) (k:=1) rfl) (.cons (.lt (lx _)) (.cons (.lt (lx _)) (.cons (.lt (lx _)) (.cons (.lt (lx _)) (.cons (.lt (lx _)) (.cons (.lt (lx _)) (.cons (.gh (j:=5) rfl rfl) (.cons (.lt (by simp)) (.cons (.kptr (j:=2) (k:=2) rfl) (.cons (.gh (j:=4) rfl rfl) (.cons (.lt (lx _)) .nil)))))))))))))
 ·rw[zuS hok];refine⟨⟨g.length+3,g.length+1,g.length,g.length+2,g.length+4,g.length+5⟩,_,?_,rfl,rfl,?_,⟨0,0,[],fun m=>by simp[zt],by simp,by simp[yZ],by simp[yZ]⟩,⟨0,[],fun m=>by simp[zt],by simp[yZ],by simp[yZ]⟩,by simp[Ym,yZ]⟩
  ·simp[Eo.ids]
  ·simp[Eo.ids]
theorem nk1{k m:Nat}(h:m≠k):zjv [some k] m:=by
 intro j;cases j with
 |zero=>simp;omega
 |succ j=>simp
theorem zdr{g:XH}(s:Sta){fv:XV}(hf:RdX g 3 1 zR fv s.filed)(h1:s.filed.length≤1000)(h2:s.l.length≤1000):Cl C (fun _=>False) 96 [.agg (zbh s fv)] g fun u g'=>∃w,u= .agg (zbh s (.sl g.length w 0 s.filed.length))∧g'=g++[.own w 3 1 (s.filed.flatMap zR)]:=by
 refine Cl.ip rfl (zuI rfl) fun Ψ hΨ=> ?_;simp;refine zy 5 [1] (fun _=>False) (by decide) (by decide) ?_;simp only[zu7,zvC,zvh,zvd];simp;refine zb.go (JJ (enc:=zR) (z:=1) rfl rfl rfl zG (by decide) hf.app (fun a=>by simp[zR]) (by omega)) (fun _ _ h=>h.elim) ?_;rintro u g' ⟨w,rfl,rfl⟩;simp;refine zb.go (zhB (znW _ s.l) (by omega)) (fun _ _ h=>h.elim) ?_;rintro u g' ⟨rfl,w2,rfl⟩;simp;have lx:∀n:Int,lvV g.length (xi n):=fun n=>by simp
 refine Gh.keep [some 2] [.own w 3 1 (s.filed.flatMap zR)] (zlN rfl ⟨⟨_,_,_,_,_,rfl,rfl,.lts (by simp)⟩,trivial⟩) (.agg (.cons (.lt (lx _)) (.cons (.lt (lx _)) (.cons (.lt (lx _)) (.cons (.lt (lx _)) (.cons (.lt (lx _)) (.cons (.lt (lx _)) (.cons (.ksl (j:=0) (k:=2) rfl) (.cons ?_ .nil))))))))) (hΨ _ _ ⟨w,rfl,rfl⟩);refine .ptr (i:=g.length+4) (t:=295) (z:=1) (by omega) (nk1 (by omega)) (by simp) (by simp) (.cons (.full (i:=g.length+3) (w:=w2) (t:=327) (z:=3) (n:=s.l.length) (cs:=s.l.flatMap yK) (by omega) (nk1 (by omega)) (by simp) (by rw[zf zM]) (.lts (by simp))) .nil)
theorem zeQ{g:XH}(s:Sta){fv:XV}(hf:RdX g 3 1 zR fv s.filed)(h1:s.filed.length≤1000)(h2:s.l.length≤1000):Cl C (fun _=>False) 96 [.agg (zbh s fv)] g fun u g'=>u= .agg (zbh s (Yt s.filed))∧g'=g:=by
 refine Cl.gh ((zdr s hf h1 h2).mono ?_);rintro u g' ⟨w,rfl,rfl⟩;have lx:∀n:Int,lvV g.length (xi n):=fun n=>by simp
 refine Gh.pure (.agg (.cons (.lt (lx _)) (.cons (.lt (lx _)) (.cons (.lt (lx _)) (.cons (.lt (lx _)) (.cons (.lt (lx _)) (.cons (.lt (lx _)) (.cons ?_ (.cons (.lt (by simp)) .nil))))))))) ⟨rfl,rfl⟩;exact .full (zuO _) (fun j=>by simp) (by simp) (by rw[zf zG]) (.lts (by simp))
abbrev cpG(g:XH)(e:Ent)(w1 w2 w3 k w:Nat):XH:=g++[.own 0 108 14 [xs e.id,xs e.j,.ptr (g.length+1+1) 0 0,xi e.s.book,xi e.s.perm,xi e.s.judge,xi e.s.cap,xi e.s.life,xi e.s.up,.sl (g.length+3) w2 0 e.s.filed.length,lpV e.s.l,.ptr (g.length+4+1) 0 0,.sl (g.length+6) w 0 k,xi e.first],.own w1 4 1 (e.touched.flatMap qa),.own 0 257 2 [xi e.first,.sl (g.length+1) w1 0 e.touched.length],.own w2 3 1 (e.s.filed.flatMap zR),.own w3 261 3 (e.s.reg.flatMap zZ),.own 0 263 1 [.sl (g.length+4) w3 0 e.s.reg.length],.own w 159 50 ((e.cs.take k).flatMap yf)]
set_option maxRecDepth 8000 in
theorem znt{g:XH}{o:Eo}{e:Ent}(h:EntP g o e)(hL:EntL e):Cl C (fun _=>False) 44 [.s (.ptr o.i 0 0)] g fun u g'=>∃o' J,(∀i∈o'.ids,g.length≤i)∧u= .s (.ptr o'.i 0 0)∧g'=g++J∧EntP g' o' e:=by
 obtain⟨nd,⟨w,wf,junk,h0,hi,hc,hf⟩,hst,hr⟩:=h;have li:=zd hi;have lc:=zd hc;refine Cl.ip rfl (zuI rfl) fun Ψ hΨ=> ?_;simp[hi,li];refine zy 14 [0] (fun _=>False) (by decide) (by decide) ?_;simp only[zu7,zvC,zvh,zvd];simp[hi,li];refine zb.go (zil hst.app hL.st) (fun _ _ h=>h.elim) ?_;rintro u g' ⟨rfl,w1,rfl⟩;simp[hi,li];refine zb.go (zdr e.s (RdX.sl zG hf).app hL.fl (by have:=hL.lo.len;omega)) (fun _ _ h=>h.elim) ?_;rintro u g' ⟨w2,rfl,rfl⟩;simp[hi,li];refine zb.go (zd1 hr.app (by have:=hL.rl;omega)) (fun _ _ h=>h.elim) ?_;rintro u g' ⟨rfl,w3,rfl⟩;simp[hi,li];have lx:∀n:Int,lvV (g.length+6) (xi n):=fun n=>by simp
 refine Lp.ghostAt 159 50 (n0:=g.length+6) (i:=g.length) (w:=0) (T:=108) (Z:=14) (by simp) ZH (.inl (zuO _)) (.cons (.lt (by simp)) (.cons (.lt (by simp)) (.cons (.lt (by simp)) (.cons (.lt (lx _)) (.cons (.lt (lx _)) (.cons (.lt (lx _)) (.cons (.lt (lx _)) (.cons (.lt (lx _)) (.cons (.lt (lx _)) (.cons (.lt (by simp)) (.cons (.lt (by simp)) (.cons (.lt (by simp)) (.cons (.gh (j:=0) rfl rfl) (.cons (.lt (lx _)) .nil)))))))))))))) ?_;simp;refine Lp.genU (σ:=Nat) e.cs.length (fun k _=>[(33,fi k)]) (fun k w=>cpG g e w1 w2 w3 k w) (fun _ _=>True) 0 (by decide) rfl (by simp) (by simp[cpG]) trivial ?_ ?_
 ·rintro q hq w4 _ hlt N hN;obtain⟨p1,cs1,o1,b1,b2,b3,b4,b5,_⟩:=(RdX.junk qR hc).atJ qR (by decide) hq;obtain⟨hc1,_,hc2,hc3,_⟩:=hL.cs _ (zvi hq);have hc4:=hc2.len;have e1:e.cs.take (q+1)=e.cs.take q++[e.cs[q]]:=zu0 hq;have hfl:((e.cs.take q).flatMap yf).length=q*50:=by rw[zf qR];simp;omega
  have hlF:∀m,zt m ((e.cs.take q).flatMap yf):=fun m=>zi1 m _;simp only[cpG,e1,zvp] at hN⊢;generalize(e.cs.take q).flatMap yf=F at *;generalize e.cs[q]=c at *;have hql:=yr hq (by have:=hL.cl;have:=hL.st.hi;omega);have hroom:(q+1)*536≤140737488355328:=by have:=hL.cl;have:=hL.st.hi;omega
  simp[l44_0,hq,b1,b2,b3,b4,b5,yf,zC,pC,zQ,zi,zD];refine zb.go0 (zeQ c.was (RdX.lst _ c.was.filed) hc3 (by omega)) ?_;simp;refine zb.go0 (zjA hc1) ?_;simp[zC,pC,zQ,zi,zD,hfl,hroom,hql];refine zcx (fun fr g'=>hN (w4+1) fr g' trivial) _ rfl (by simp) (by simpa using hlt) (by simp) ?_;intro x hx;simp only[zu2,zv3,or_false] at hx;rcases hx with rfl|rfl|rfl|rfl|rfl|rfl|rfl
  all_goals simp[lvO,hlF]
 ·rintro w4 _;simp only[cpG,zu9];simp[l44_0];refine Gh.keep [some 0,some 1,some 2,some 3,some 5,some 6] [.own 0 108 14 (zcd e ⟨g.length,g.length+2,g.length+1,g.length+4,g.length+5,g.length+3⟩ w4 w2),.own w1 4 1 (e.touched.flatMap qa),.own 0 257 2 [xi e.first,.sl (g.length+1) w1 0 e.touched.length],.own w2 3 1 (e.s.filed.flatMap zR),.own 0 263 1 [zhD e.s.reg],.own w4 159 50 (e.cs.flatMap yf)] (zlN rfl ⟨⟨_,_,_,_,_,rfl,rfl,?_⟩,⟨_,_,_,_,_,rfl,rfl,.lts (by simp)⟩,⟨_,_,_,_,_,rfl,rfl,.cons (.lt (by simp)) (.cons (.ksl (j:=1) (k:=1) rfl) .nil)⟩,⟨_,_,_,_,_,rfl,rfl,.lts (by simp)⟩,⟨_,_,_,_,_,rfl,rfl,.cons ?_ .nil⟩,⟨_,_,_,_,_,rfl,rfl,.lts (by simp)⟩,trivial⟩) (.s (.kptr (j:=0) (k:=0) rfl)) (hΨ _ _ ?_)
  ·have lx:∀n:Int,lvV g.length (xi n):=fun n=>by simp
   exact .cons (.lt (by simp)) (.cons (.lt (by simp)) (.cons (.kptr (j:=2) (k:=2) rfl) (.cons (.lt (lx _)) (.cons (.lt (lx _)) (.cons (.lt (lx _)) (.cons (.lt (lx _)) (.cons (.lt (lx _)) (.cons (.lt (lx _)) (.cons (.ksl (j:=3) (k:=3) rfl) (.cons (.lt (by simp)) (.cons (.kptr (j:=4) (k:=5) rfl) (.cons (.ksl (j:=5) (k:=6) rfl) (.cons (.lt (lx _)) .nil)))))))))))))
  ·exact .full (i:=g.length+4) (w:=w3) (t:=261) (z:=3) (n:=e.s.reg.length) (cs:=e.s.reg.flatMap zZ) (by omega) (fun j=>by match j with|0=>simp|1=>simp|2=>simp|3=>simp|4=>simp|5=>simp|n+6=>simp) (by simp) (by rw[zf zO]) (.lts (by simp))
  ·refine⟨⟨g.length,g.length+2,g.length+1,g.length+4,g.length+5,g.length+3⟩,_,?_,rfl,rfl,?_,⟨w4,w2,[],fun m=>by simp[zt],by simp,by simp,by simp⟩,⟨w1,[],fun m=>by simp[zt],by simp,by simp⟩,by simp[Ym]⟩
   ·simp[Eo.ids]
   ·simp[Eo.ids]
structure Sam(S:Nat→Prop)(g g':XH):Prop where
 len:g'.length=g.length
 same:∀j:Nat,¬S j→g'[j]? =g[j]?
theorem Upd.sam{S:Nat→Prop}{g g':XH}(h:Upd S g g'):Sam S g g':=⟨h.len,h.same⟩
theorem Sam.refl{S:Nat→Prop}{g:XH}:Sam S g g:=⟨rfl,fun _ _=>rfl⟩
theorem Sam.trans{S:Nat→Prop}{g g' g'':XH}(h:Sam S g g')(k:Sam S g' g''):Sam S g g'':=⟨k.len.trans h.len,fun j hj=>(k.same j hj).trans (h.same j hj)⟩
theorem Sam.mono{S T:Nat→Prop}{g g':XH}(h:Sam S g g')(hs:∀j,S j→T j):Sam T g g':=⟨h.len,fun j hj=>h.same j fun k=>hj (hs j k)⟩
theorem Sam.set{S:Nat→Prop}{g:XH}{i:Nat}(hi:S i)(o:XO):Sam S g (g.set i o):=⟨by simp,fun j hj=>by rw[zuT (by rintro rfl;exact hj hi)]⟩
theorem Sam.cut{S:Nat→Prop}{g J g':XH}(h:Sam S (g++J) g')(hS:∀j,S j→j<g.length):∃G,g'=G++J∧Sam S g G:=by
 refine⟨g'.take g.length,?_,by rw[zu5,h.len];simp,fun j hj=> ?_⟩
 ·have h1:g'.drop g.length=J:=by
   refine zv6 fun j=> ?_;rw[zvQ,h.same _ (fun k=>by have:=hS _ k;omega),zuP (by omega)];congr 1;omega
  rw[←h1,zvk]
 ·rw[zvl];split
  ·rename_i hl;rw[h.same j hj,zuN hl]
  ·rename_i hl;rw[zvT (by omega)]
theorem EntP.old{g:XH}{o:Eo}{e:Ent}(h:EntP g o e){n:Nat}(hn:∀i∈o.ids,i<n):∀i∈o.ids,∀x:XO,g[i]? =some x→lvO n x:=by
 obtain⟨nd,⟨w,wf,junk,h0,h1,h2,h3⟩,⟨w2,j2,h4,h5,h6⟩,h7⟩:=h;have h7:g[o.r]? =_:=h7;have n1:=hn o.st (by simp[Eo.ids]);have n2:=hn o.sk (by simp[Eo.ids]);have n3:=hn o.r (by simp[Eo.ids]);have n4:=hn o.c (by simp[Eo.ids]);have n5:=hn o.f (by simp[Eo.ids]);simp only[Eo.ids,zu2,zv3,or_false];rintro i (rfl|rfl|rfl|rfl|rfl|rfl) x hx
 ·rw[h1] at hx;cases hx;simp[lvO,n1,n2,n3,n4,n5]
 ·rw[h5] at hx;cases hx;simp[lvO,n1,n2,n3,n4,n5]
 ·rw[h6] at hx;cases hx;simp[lvO,h4]
 ·rw[h7] at hx;cases hx;simp[lvO]
 ·rw[h2] at hx;cases hx;simp[lvO,h0]
 ·rw[h3] at hx;cases hx;simp[lvO]
theorem EntP.upd{g g':XH}{o:Eo}{e:Ent}(h:EntP g' o e)(hs:Sam (fun x=>x∈o.ids) g g'):Upd (fun x=>x∈o.ids) g g':=by
 refine⟨hs.len,hs.same,fun j x hx=> ?_⟩;by_cases hj:j∈o.ids
 ·exact .inr (h.old (fun i hi=>by rw[←hs.len];exact h.lt i hi) j hj x hx)
 ·rw[hs.same j hj] at hx;exact .inl hx
theorem zad{W:Nat→Prop}{g J g':XH}{o:Eo}{e:Ent}{u:XF}{Ψ:XF→XH→Prop}(h:EntP g' o e)(hs:Sam (fun x=>x∈o.ids) (g++J) g')(hl:∀i∈o.ids,i<g.length)(hu:lvF g.length u)(hp:∀G,Sam (fun x=>x∈o.ids) g G→EntP G o e→Ψ u G):Gh W g Ψ u g':=by obtain⟨G,rfl,h1⟩:=hs.cut hl;have h2:EntP G o e:=h.same fun i hi=>(zq (by rw[h1.len];exact hl i hi)).symm;exact qS (h2.upd h1) hu (hp G h1 h2)
theorem EntP.setSt{g G:XH}{o:Eo}{e:Ent}(h:EntP g o e){t:List Bool}(hs:∀j∈o.ids,j≠o.st→j≠o.sk→G[j]? =g[j]?)(ht:Jz G o.st o.sk e.first t):EntP G o {e with touched:=t}:=by
 obtain⟨nd,⟨w,wf,junk,h0,h1,h2,h3⟩,h4,h5⟩:=h;have n:=nd;simp[Eo.ids] at n;have h5:g[o.r]? =_:=h5;refine⟨nd,⟨w,wf,junk,h0,?_,?_,?_⟩,ht,?_⟩
 ·rw[hs _ (by simp[Eo.ids]) (by omega) (by omega)];exact h1
 ·rw[hs _ (by simp[Eo.ids]) (by omega) (by omega)];exact h2
 ·rw[hs _ (by simp[Eo.ids]) (by omega) (by omega)];exact h3
 ·show G[o.r]? =_;rw[hs _ (by simp[Eo.ids]) (by omega) (by omega)];exact h5
def zz(e:Ent)(d:Int×Sta):Int×Ent:=
 if¬zm (yt e.first e.touched)=true then(8,e)
 else if d.1=0 then(0,{e with s:=d.2,touched:=e.touched.set (e.touched.length-1) true}) else(d.1,{e with s:=d.2})
theorem ZF{g:XH}{o:Eo}{e:Ent}(h:EntP g o e)(hL:StaL e.first e.touched){k f:Nat}{a b:List XF}(hk:g[k]? =some (.clo f a b))(d:Int×Sta)(hdo:Cl C (fun x=>x∈o.ids) f (a++b) g fun u g'=>u=fi d.1∧EntP g' o {e with s:=d.2}∧Sam (fun x=>x∈o.ids) g g'):
 Cl C (fun x=>x∈o.ids) 45 [.s (.ptr o.i 0 0),.s (.cl k)] g fun u g'=>u=fi (zz e d).1∧EntP g' o (zz e d).2∧Sam (fun x=>x∈o.ids) g g':=by
 have hP:=h;obtain⟨nd,⟨w,wf,junk,h0,hi,hc,hf⟩,hst,hr⟩:=h;have li:=zd hi;have lk:=zd hk;refine Cl.ip rfl (zuI rfl) fun Ψ hΨ=> ?_;simp[hi,li];refine zb.go0 (zcC hst hL) ?_;cases hp:zm (yt e.first e.touched) with
 |false=>
  simp;exact Gh.here (hΨ _ _ (by simp only[zz,hp];exact⟨rfl,hP,Sam.refl⟩))
 |true=>
  simp[hk,lk];refine zb.go hdo (fun x hx e=> .inr e) ?_;rintro u g' ⟨rfl,hE,hS⟩;simp;refine zc (fun c1=> ?_) (fun c1=> ?_)
  ·simp at c1;simp;exact Gh.here (hΨ _ _ (by simp only[zz,hp,not_true_eq_false,if_false,zuU c1];exact⟨trivial,hE,hS⟩))
  simp at c1;have hE':=hE;obtain⟨_,⟨w',wf',junk',h0',hi',_,_⟩,hst',_⟩:=hE;have li':=zd hi';simp[hi',li'];have n:=nd;simp[Eo.ids] at n;refine zb.go (zoP hst' (by omega) hL) (fun x hx e=> .inr (by rw[e];simp[Eo.ids])) ?_;rintro u g2 ⟨rfl,hT,hU⟩;simp[zgQ,hp] at hT⊢;refine Gh.here (hΨ _ _ ?_);simp only[zz,hp,not_true_eq_false,if_false,zuS c1];exact⟨trivial,hE'.setSt (t:=e.touched.set (e.touched.length-1) true) (fun j hj h1 h2=>hU.same j h2) hT,hS.trans (hU.sam.mono fun j h=>by rw[h];simp[Eo.ids])⟩
def qw(s n:Int):Int×Int:=if¬za n=true then(1,s) else if¬za (wr (s+n))=true then(6,s) else(0,wr (s+n))
theorem zi3{g:XH}{i t z off:Nat}{cs:List XV}{s:Int}(hi:g[i]? =some (.own 0 t z cs))(ho:cs[off]? =some (xi s))(n:Int):Cl C (fun x=>x=i) 47 [.s (.ptr i 0 off),fi n] g fun u g'=>u=fi (qw s n).1∧g'=g.set i (.own 0 t z (cs.set off (xi (qw s n).2))):=by
 have li:=zd hi;have lo:off<cs.length:=(zuM.1 ho).1;have hsame:∀a,qw s n=(a,s)→g.set i (.own 0 t z (cs.set off (xi (qw s n).2)))=g:=fun a e=>by
  rw[e];have:cs.set off (xi s)=cs:=by
   refine zv6 fun j=> ?_;by_cases hj:off=j
   ·subst hj;rw[zu3 lo,ho]
   ·rw[zuT hj]
  rw[this];exact y5 hi
 refine Cl.ip rfl (zuI rfl) fun Ψ hΨ=> ?_;simp;refine zb.pure (z7 ..) ?_;simp;refine zc (fun c1=> ?_) (fun c1=> ?_)
 rotate_left
 ·simp;exact Gh.here (hΨ _ _ (by rw[hsame 1 (by simp[qw,c1])];exact⟨by simp[qw,c1],rfl⟩))
 simp[hi,li,ho,lo];refine zb.pure (z7 ..) ?_;simp;refine zc (fun c2=> ?_) (fun c2=> ?_)
 rotate_left
 ·simp;exact Gh.here (hΨ _ _ (by rw[hsame 6 (by simp[qw,c1,c2])];exact⟨by simp[qw,c1,c2],rfl⟩))
 simp[hi,li,ho,lo];have hne:cs≠[]:=fun e=>by rw[e] at lo;simp at lo
 simp[hne,show off+1≤cs.length by omega];exact Gh.here (hΨ _ _ (by simp[qw,c1,c2]))
theorem EntP.setS{g:XH}{o:Eo}{e:Ent}(h:EntP g o e){w wf:Nat}(hi:g[o.i]? =some (.own 0 108 14 (zcd e o w wf)))(s':Sta)(hf:s'.filed=e.s.filed)(hr:s'.reg=e.s.reg):EntP (g.set o.i (.own 0 108 14 (zcd {e with s:=s'} o w wf))) o {e with s:=s'}:=by
 obtain⟨nd,⟨w',wf',junk,h0,h1,h2,h3⟩,⟨w2,j2,h4,h5,h6⟩,h7⟩:=h;have n:=nd;simp[Eo.ids] at n;have li:=zd hi;have e1:=h1.symm.trans hi;simp at e1;obtain⟨rfl,rfl⟩:wf'=wf∧w'=w:=e1;have h7:g[o.r]? =_:=h7;refine⟨nd,⟨w',wf',junk,h0,zu3 li,?_,?_⟩,⟨w2,j2,h4,?_,?_⟩,?_⟩
 ·rw[zuT (by omega)];exact h2
 ·rw[zuT (by omega)];simp only[hf];exact h3
 ·rw[zuT (by omega)];exact h5
 ·rw[zuT (by omega)];exact h6
 ·show(g.set _ _)[o.r]? =_;rw[zuT (by omega),h7];simp only[hr]
theorem EntP.setR{g G:XH}{o:Eo}{e:Ent}(h:EntP g o e){l:List Bu}(hs:Sam (fun x=>x=o.r) g G)(hr:Ym G o.r l):EntP G o {e with s:={e.s with reg:=l}}:=by
 obtain⟨nd,⟨w',wf',junk,h0,h1,h2,h3⟩,⟨w2,j2,h4,h5,h6⟩,h7⟩:=h;have n:=nd;simp[Eo.ids] at n;refine⟨nd,⟨w',wf',junk,h0,?_,?_,?_⟩,⟨w2,j2,h4,?_,?_⟩,hr⟩
 all_goals(rw[hs.same _ (by omega)];assumption)
def QO(s:Sta)(n:Int):Int×Sta:=((qw s.book n).1,{s with book:=(qw s.book n).2})
theorem zsQ{g:XH}{o:Eo}{e:Ent}(h:EntP g o e){a b:Nat}{n:Int}(ha:g[a]? =some (.own 0 45 1 [.ptr o.i 0 0]))(hb:g[b]? =some (.own 0 3 1 [xi n])):Cl C (fun x=>x∈o.ids) 46 [.s (.ptr a 0 0),.s (.ptr b 0 0)] g fun u g'=>u=fi (QO e.s n).1∧EntP g' o {e with s:=(QO e.s n).2}∧Sam (fun x=>x∈o.ids) g g':=by have hP:=h;obtain⟨nd,⟨w,wf,junk,h0,hi,hc,hf⟩,hst,hr⟩:=h;have li:=zd hi;have la:=zd ha;have lb:=zd hb;have hlt:=hP.lt;refine Cl.ip rfl (zuI rfl) fun Ψ hΨ=> ?_;simp[hi,li,ha,la,hb,lb];refine zb.go (zi3 (off:=3) hi (s:=e.s.book) rfl n) (fun x hx e=> .inr (by rw[e];simp[Eo.ids])) ?_;rintro u g' ⟨rfl,rfl⟩;simp;exact Gh.here (hΨ _ _ ⟨rfl,hP.setS hi (QO e.s n).2 rfl rfl,Sam.set (by simp[Eo.ids]) _⟩)
theorem zqk{g:XH}{o:Eo}{e:Ent}(h:EntP g o e)(hL:StaL e.first e.touched)(n:Int):Cl C (fun x=>x∈o.ids) 16 [.s (.ptr o.i 0 0),fi n] g fun u g'=>u=fi (zz e (QO e.s n)).1∧EntP g' o (zz e (QO e.s n)).2∧Sam (fun x=>x∈o.ids) g g':=by refine Cl.ip rfl (zuI rfl) fun Ψ hΨ=> ?_;simp;refine zb.go (ZF (g:=g++[.own 0 45 1 [.ptr o.i 0 0],.own 0 3 1 [xi n],.clo 46 [] [.s (.ptr g.length 0 0),.s (.ptr (g.length+1) 0 0)]]) h.app hL (k:=g.length+2) (f:=46) (a:=[]) (b:=[.s (.ptr g.length 0 0),.s (.ptr (g.length+1) 0 0)]) (by simp) (QO e.s n) (zsQ h.app (a:=g.length) (b:=g.length+1) (by simp) (by simp))) (fun x hx e=> .inr e) ?_;rintro u g' ⟨rfl,hE,hS⟩;simp;exact zad hE hS h.lt (by simp) fun G h1 h2=>hΨ _ _ ⟨rfl,h2,h1⟩
def QT(s:Sta)(n:Int):Int×Sta:=((qw s.perm n).1,{s with perm:=(qw s.perm n).2})
theorem ztU{g:XH}{o:Eo}{e:Ent}(h:EntP g o e){a b:Nat}{n:Int}(ha:g[a]? =some (.own 0 45 1 [.ptr o.i 0 0]))(hb:g[b]? =some (.own 0 3 1 [xi n])):Cl C (fun x=>x∈o.ids) 141 [.s (.ptr a 0 0),.s (.ptr b 0 0)] g fun u g'=>u=fi (QT e.s n).1∧EntP g' o {e with s:=(QT e.s n).2}∧Sam (fun x=>x∈o.ids) g g':=by have hP:=h;obtain⟨nd,⟨w,wf,junk,h0,hi,hc,hf⟩,hst,hr⟩:=h;have li:=zd hi;have la:=zd ha;have lb:=zd hb;have hlt:=hP.lt;refine Cl.ip rfl (zuI rfl) fun Ψ hΨ=> ?_;simp[hi,li,ha,la,hb,lb];refine zb.go (zi3 (off:=4) hi (s:=e.s.perm) rfl n) (fun x hx e=> .inr (by rw[e];simp[Eo.ids])) ?_;rintro u g' ⟨rfl,rfl⟩;simp;exact Gh.here (hΨ _ _ ⟨rfl,hP.setS hi (QT e.s n).2 rfl rfl,Sam.set (by simp[Eo.ids]) _⟩)
theorem zqo{g:XH}{o:Eo}{e:Ent}(h:EntP g o e)(hL:StaL e.first e.touched)(n:Int):Cl C (fun x=>x∈o.ids) 70 [.s (.ptr o.i 0 0),fi n] g fun u g'=>u=fi (zz e (QT e.s n)).1∧EntP g' o (zz e (QT e.s n)).2∧Sam (fun x=>x∈o.ids) g g':=by refine Cl.ip rfl (zuI rfl) fun Ψ hΨ=> ?_;simp;refine zb.go (ZF (g:=g++[.own 0 45 1 [.ptr o.i 0 0],.own 0 3 1 [xi n],.clo 141 [] [.s (.ptr g.length 0 0),.s (.ptr (g.length+1) 0 0)]]) h.app hL (k:=g.length+2) (f:=141) (a:=[]) (b:=[.s (.ptr g.length 0 0),.s (.ptr (g.length+1) 0 0)]) (by simp) (QT e.s n) (ztU h.app (a:=g.length) (b:=g.length+1) (by simp) (by simp))) (fun x hx e=> .inr e) ?_;rintro u g' ⟨rfl,hE,hS⟩;simp;exact zad hE hS h.lt (by simp) fun G h1 h2=>hΨ _ _ ⟨rfl,h2,h1⟩
def zhL(s:Sta)(c y n:Int):Int×Sta:=((jm s.reg c y n).1,{s with reg:=(jm s.reg c y n).2})
theorem ztI{g:XH}{o:Eo}{e:Ent}(h:EntP g o e)(hI:QZ e.s.reg){a b1 b2 b3:Nat}{c y n:Int}(ha:g[a]? =some (.own 0 45 1 [.ptr o.i 0 0]))(hb1:g[b1]? =some (.own 0 3 1 [xi c]))(hb2:g[b2]? =some (.own 0 3 1 [xi y]))(hb3:g[b3]? =some (.own 0 3 1 [xi n])):Cl C (fun x=>x∈o.ids) 142 [.s (.ptr a 0 0),.s (.ptr b1 0 0),.s (.ptr b2 0 0),.s (.ptr b3 0 0)] g fun u g'=>u=fi (zhL e.s c y n).1∧EntP g' o {e with s:=(zhL e.s c y n).2}∧Sam (fun x=>x∈o.ids) g g':=by have hP:=h;obtain⟨nd,⟨w,wf,junk,h0,hi,hc,hf⟩,hst,hr⟩:=h;have li:=zd hi;have la:=zd ha;have lb1:=zd hb1;have lb2:=zd hb2;have lb3:=zd hb3;refine Cl.ip rfl (zuI rfl) fun Ψ hΨ=> ?_;simp[hi,li,ha,la,hb1,lb1,hb2,lb2,hb3,lb3];refine zb.go (zre hr hI c y n) (fun x hx e=> .inr (by rw[e];simp[Eo.ids])) ?_;rintro u g' ⟨rfl,hR,hU⟩;simp;exact Gh.here (hΨ _ _ ⟨rfl,hP.setR hU.sam hR,hU.sam.mono fun j e=>by rw[e];simp[Eo.ids]⟩)
theorem zqn{g:XH}{o:Eo}{e:Ent}(h:EntP g o e)(hL:StaL e.first e.touched)(hI:QZ e.s.reg)(c y n:Int):Cl C (fun x=>x∈o.ids) 71 [.s (.ptr o.i 0 0),fi c,fi y,fi n] g fun u g'=>u=fi (zz e (zhL e.s c y n)).1∧EntP g' o (zz e (zhL e.s c y n)).2∧Sam (fun x=>x∈o.ids) g g':=by refine Cl.ip rfl (zuI rfl) fun Ψ hΨ=> ?_;simp;refine zb.go (ZF (g:=g++[.own 0 45 1 [.ptr o.i 0 0],.own 0 3 1 [xi c],.own 0 3 1 [xi y],.own 0 3 1 [xi n],.clo 142 [] [.s (.ptr g.length 0 0),.s (.ptr (g.length+1) 0 0),.s (.ptr (g.length+2) 0 0),.s (.ptr (g.length+3) 0 0)]]) h.app hL (k:=g.length+4) (f:=142) (a:=[]) (b:=[.s (.ptr g.length 0 0),.s (.ptr (g.length+1) 0 0),.s (.ptr (g.length+2) 0 0),.s (.ptr (g.length+3) 0 0)]) (by simp) (zhL e.s c y n) (ztI h.app hI (a:=g.length) (b1:=g.length+1) (b2:=g.length+2) (b3:=g.length+3) (by simp) (by simp) (by simp) (by simp))) (fun x hx e=> .inr e) ?_;rintro u g' ⟨rfl,hE,hS⟩;simp;exact zad hE hS h.lt (by simp) fun G h1 h2=>hΨ _ _ ⟨rfl,h2,h1⟩
def zh9(s:Sta)(c y c2 y2 n:Int):Int×Sta:=((z6 s.reg c y c2 y2 n).1,{s with reg:=(z6 s.reg c y c2 y2 n).2})
theorem zl7{g:XH}{o:Eo}{e:Ent}(h:EntP g o e)(hI:QZ e.s.reg){a b1 b2 b3 b4 b5:Nat}{c y c2 y2 n:Int}(ha:g[a]? =some (.own 0 45 1 [.ptr o.i 0 0]))(hb1:g[b1]? =some (.own 0 3 1 [xi c]))(hb2:g[b2]? =some (.own 0 3 1 [xi y]))(hb3:g[b3]? =some (.own 0 3 1 [xi c2]))(hb4:g[b4]? =some (.own 0 3 1 [xi y2]))(hb5:g[b5]? =some (.own 0 3 1 [xi n])):Cl C (fun x=>x∈o.ids) 144 [.s (.ptr a 0 0),.s (.ptr b1 0 0),.s (.ptr b2 0 0),.s (.ptr b3 0 0),.s (.ptr b4 0 0),.s (.ptr b5 0 0)] g fun u g'=>u=fi (zh9 e.s c y c2 y2 n).1∧EntP g' o {e with s:=(zh9 e.s c y c2 y2 n).2}∧Sam (fun x=>x∈o.ids) g g':=by have hP:=h;obtain⟨nd,⟨w,wf,junk,h0,hi,hc,hf⟩,hst,hr⟩:=h;have li:=zd hi;have la:=zd ha;have lb1:=zd hb1;have lb2:=zd hb2;have lb3:=zd hb3;have lb4:=zd hb4;have lb5:=zd hb5;refine Cl.ip rfl (zuI rfl) fun Ψ hΨ=> ?_;simp[hi,li,ha,la,hb1,lb1,hb2,lb2,hb3,lb3,hb4,lb4,hb5,lb5];refine zb.go (zjI hr hI c y c2 y2 n) (fun x hx e=> .inr (by rw[e];simp[Eo.ids])) ?_;rintro u g' ⟨rfl,hR,hU⟩;simp;exact Gh.here (hΨ _ _ ⟨rfl,hP.setR hU.sam hR,hU.sam.mono fun j e=>by rw[e];simp[Eo.ids]⟩)
theorem zi5{g:XH}{o:Eo}{e:Ent}(h:EntP g o e)(hL:StaL e.first e.touched)(hI:QZ e.s.reg)(c y c2 y2 n:Int):Cl C (fun x=>x∈o.ids) 72 [.s (.ptr o.i 0 0),fi c,fi y,fi c2,fi y2,fi n] g fun u g'=>u=fi (zz e (zh9 e.s c y c2 y2 n)).1∧EntP g' o (zz e (zh9 e.s c y c2 y2 n)).2∧Sam (fun x=>x∈o.ids) g g':=by refine Cl.ip rfl (zuI rfl) fun Ψ hΨ=> ?_;simp;refine zb.go (ZF (g:=g++[.own 0 45 1 [.ptr o.i 0 0],.own 0 3 1 [xi c],.own 0 3 1 [xi y],.own 0 3 1 [xi c2],.own 0 3 1 [xi y2],.own 0 3 1 [xi n],.clo 144 [] [.s (.ptr g.length 0 0),.s (.ptr (g.length+1) 0 0),.s (.ptr (g.length+2) 0 0),.s (.ptr (g.length+3) 0 0),.s (.ptr (g.length+4) 0 0),.s (.ptr (g.length+5) 0 0)]]) h.app hL (k:=g.length+6) (f:=144) (a:=[]) (b:=[.s (.ptr g.length 0 0),.s (.ptr (g.length+1) 0 0),.s (.ptr (g.length+2) 0 0),.s (.ptr (g.length+3) 0 0),.s (.ptr (g.length+4) 0 0),.s (.ptr (g.length+5) 0 0)]) (by simp) (zh9 e.s c y c2 y2 n) (zl7 h.app hI (a:=g.length) (b1:=g.length+1) (b2:=g.length+2) (b3:=g.length+3) (b4:=g.length+4) (b5:=g.length+5) (by simp) (by simp) (by simp) (by simp) (by simp) (by simp))) (fun x hx e=> .inr e) ?_;rintro u g' ⟨rfl,hE,hS⟩;simp;exact zad hE hS h.lt (by simp) fun G h1 h2=>hΨ _ _ ⟨rfl,h2,h1⟩
def zbq(s:Sta)(r:Int):Int×Sta:=if zn r then(0,{s with judge:=r}) else(1,s)
theorem zqF{g:XH}{o:Eo}{e:Ent}(h:EntP g o e){a b:Nat}{n:Int}(ha:g[a]? =some (.own 0 45 1 [.ptr o.i 0 0]))(hb:g[b]? =some (.own 0 3 1 [xi n])):Cl C (fun x=>x∈o.ids) 146 [.s (.ptr b 0 0),.s (.ptr a 0 0)] g fun u g'=>u=fi (zbq e.s n).1∧EntP g' o {e with s:=(zbq e.s n).2}∧Sam (fun x=>x∈o.ids) g g':=by
 have hP:=h;obtain⟨nd,⟨w,wf,junk,h0,hi,hc,hf⟩,hst,hr⟩:=h;have li:=zd hi;have la:=zd ha;have lb:=zd hb;refine Cl.ip rfl (zuI rfl) fun Ψ hΨ=> ?_;simp[hi,li,ha,la,hb,lb];refine zb.pure (q7 ..) ?_;simp;refine zc (fun c1=> ?_) (fun c1=> ?_)
 ·simp[hi,li,ha,la,hb,lb];have hS:=hP.setS hi {e.s with judge:=n} rfl rfl;have e1:zbq e.s n=(0,{e.s with judge:=n}):=by simp[zbq,c1]
  exact⟨.inr (by simp[Eo.ids]),Gh.here (hΨ _ _ (by rw[e1];exact⟨rfl,hS,Sam.set (by simp[Eo.ids]) _⟩))⟩
 ·simp;exact Gh.here (hΨ _ _ (by simp only[zbq,c1,if_false,zvf];exact⟨trivial,hP,Sam.refl⟩))
theorem znw{g:XH}{o:Eo}{e:Ent}(h:EntP g o e)(hL:StaL e.first e.touched)(n:Int):Cl C (fun x=>x∈o.ids) 73 [.s (.ptr o.i 0 0),fi n] g fun u g'=>u=fi (zz e (zbq e.s n)).1∧EntP g' o (zz e (zbq e.s n)).2∧Sam (fun x=>x∈o.ids) g g':=by refine Cl.ip rfl (zuI rfl) fun Ψ hΨ=> ?_;simp;refine zb.go (ZF (g:=g++[.own 0 45 1 [.ptr o.i 0 0],.own 0 3 1 [xi n],.clo 146 [] [.s (.ptr (g.length+1) 0 0),.s (.ptr g.length 0 0)]]) h.app hL (k:=g.length+2) (f:=146) (a:=[]) (b:=[.s (.ptr (g.length+1) 0 0),.s (.ptr g.length 0 0)]) (by simp) (zbq e.s n) (zqF h.app (a:=g.length) (b:=g.length+1) (by simp) (by simp))) (fun x hx e=> .inr e) ?_;rintro u g' ⟨rfl,hE,hS⟩;simp;exact zad hE hS h.lt (by simp) fun G h1 h2=>hΨ _ _ ⟨rfl,h2,h1⟩
def zbc(s:Sta)(m l:Int):Int×Sta:=if JH m l then(0,{s with cap:=m,life:=l}) else(1,s)
theorem zsT{g:XH}{o:Eo}{e:Ent}(h:EntP g o e){a b c:Nat}{m l:Int}(ha:g[a]? =some (.own 0 45 1 [.ptr o.i 0 0]))(hb:g[b]? =some (.own 0 3 1 [xi m]))(hc':g[c]? =some (.own 0 3 1 [xi l])):Cl C (fun x=>x∈o.ids) 147 [.s (.ptr b 0 0),.s (.ptr c 0 0),.s (.ptr a 0 0)] g fun u g'=>u=fi (zbc e.s m l).1∧EntP g' o {e with s:=(zbc e.s m l).2}∧Sam (fun x=>x∈o.ids) g g':=by
 have hP:=h;obtain⟨nd,⟨w,wf,junk,h0,hi,hc,hf⟩,hst,hr⟩:=h;have li:=zd hi;have la:=zd ha;have lb:=zd hb;have lc:=zd hc';refine Cl.ip rfl (zuI rfl) fun Ψ hΨ=> ?_;simp[hi,li,ha,la,hb,lb,hc',lc];refine zb.pure (zsk ..) ?_;simp;refine zc (fun c1=> ?_) (fun c1=> ?_)
 ·simp;have na:¬a=o.i:=by rintro rfl;rw[hi] at ha;simp at ha
  have nb:¬b=o.i:=by rintro rfl;rw[hi] at hb;simp at hb
  have nc:¬c=o.i:=by rintro rfl;rw[hi] at hc';simp at hc'
  refine zc5 4 8 [0,1,2] (fun x=>x=o.i) (by decide) (by decide) (by decide) ?_;simp only[zu7,zvC,zvh,zvd];simp[hi,li,ha,la,hb,lb,hc',lc,na,nb,nc,Ne.symm na,Ne.symm nb,Ne.symm nc];have hS:=hP.setS hi {e.s with cap:=m,life:=l} rfl rfl;have e1:zbc e.s m l=(0,{e.s with cap:=m,life:=l}):=by simp[zbc,c1]
  exact⟨.inr (by simp[Eo.ids]),Gh.here (hΨ _ _ (by rw[e1];exact⟨rfl,hS,Sam.set (by simp[Eo.ids]) _⟩))⟩
 ·simp;exact Gh.here (hΨ _ _ (by simp only[zbc,c1,if_false,zvf];exact⟨trivial,hP,Sam.refl⟩))
theorem zql{g:XH}{o:Eo}{e:Ent}(h:EntP g o e)(hL:StaL e.first e.touched)(m l:Int):Cl C (fun x=>x∈o.ids) 74 [.s (.ptr o.i 0 0),fi m,fi l] g fun u g'=>u=fi (zz e (zbc e.s m l)).1∧EntP g' o (zz e (zbc e.s m l)).2∧Sam (fun x=>x∈o.ids) g g':=by refine Cl.ip rfl (zuI rfl) fun Ψ hΨ=> ?_;simp;refine zb.go (ZF (g:=g++[.own 0 45 1 [.ptr o.i 0 0],.own 0 3 1 [xi m],.own 0 3 1 [xi l],.clo 147 [] [.s (.ptr (g.length+1) 0 0),.s (.ptr (g.length+2) 0 0),.s (.ptr g.length 0 0)]]) h.app hL (k:=g.length+3) (f:=147) (a:=[]) (b:=[.s (.ptr (g.length+1) 0 0),.s (.ptr (g.length+2) 0 0),.s (.ptr g.length 0 0)]) (by simp) (zbc e.s m l) (zsT h.app (a:=g.length) (b:=g.length+1) (c:=g.length+2) (by simp) (by simp) (by simp))) (fun x hx e=> .inr e) ?_;rintro u g' ⟨rfl,hE,hS⟩;simp;exact zad hE hS h.lt (by simp) fun G h1 h2=>hΨ _ _ ⟨rfl,h2,h1⟩
theorem idxI{g:XH}{v:XV}{l:List Int}(hr:RdX g 3 1 zR v l)(hl:l.length≤100000)(p:Int):Cl C (fun _=>False) 271 [.s v,fi p] g fun u g'=>u=fi (ym (fun x=>x==p) 0 l)∧g'=g:=by
 refine Cl.ip rfl (zuI rfl) fun Ψ hΨ=> ?_;simp[hr.len];refine Lp.genU (σ:=Unit) l.length (fun k _=>[(8,fi k)]) (fun _ _=>g) (fun k _=>ym (fun x=>x==p) k (l.drop k)=ym (fun x=>x==p) 0 l) () (by decide) rfl (by simp) rfl rfl ?_ ?_
 ·rintro q hq ⟨⟩ hi hlt N hN;obtain⟨p2,cs2,o2,c1,c2,c3,c4⟩:=hr.at1 zG (k:=q) hq;rw[zvq hq,ym] at hi;simp[l271_0,hq,c1,c2,c3,c4,zR];refine zc (fun hc=> ?_) (fun hc=> ?_)
  ·simp at hc;simp;exact Gh.here (hΨ _ _ ⟨by rw[zuS (by simp[←hc])] at hi;rw[←hi],rfl⟩)
  ·simp at hc;rw[zuU (by simpa using fun e=>hc e.symm)] at hi;simp[yr hq (by omega)];exact qh () hN hi (by simp) (by simpa using hlt)
 ·rintro⟨⟩ hi;rw[zwN (zuO _),ym] at hi;simp[l271_0];exact Gh.here (hΨ _ _ ⟨by rw[←hi],rfl⟩)
theorem conI{g:XH}{v:XV}{l:List Int}(hr:RdX g 3 1 zR v l)(hl:l.length≤100000)(p:Int):Cl C (fun _=>False) 214 [.s v,fi p] g fun u g'=>u=fb (l.contains p)∧g'=g:=by
 refine Cl.ip rfl (zuI rfl) fun Ψ hΨ=> ?_;simp;refine zb.go0 (idxI hr hl p) ?_;simp;refine Gh.here (hΨ _ _ ⟨?_,rfl⟩);have h1:=zbi (fun x=>x==p) 0 l;have h2:l.any (fun x=>x==p)=l.contains p:=by rw[List.contains_eq_any_beq];congr 1;funext x;exact Bool.beq_comm
 rw[h2] at h1;cases h:l.contains p with
 |true=>simp[h1.2 h]
 |false=>
  have:¬ym (fun x=>x==p) 0 l≥0:=fun h'=>by rw[h1.1 h'] at h;cases h
  simp;omega
def qN(e:Ent)(p:Int):Option Pro:=if p<e.first then none else(e.cs[(p-e.first).toNat]?).map (·.p)
def zfa(q:Option Pro):XF:= .tup [.agg (zC (q.getD zr)),fb q.isSome]
theorem subX{X cs:List XV}{o z a n:Nat}(h:(X.drop o).take z=cs)(hn:a+n≤z):(X.drop (o+a)).take n=(cs.drop a).take n:=by subst h;rw[zw5,zwL,zvA (by omega),zw4]
theorem znc{l:List Clo}{junk:List XV}{q:Nat}(h:q<l.length):q*50+50≤(l.flatMap yf++junk).length∧((l.flatMap yf++junk).drop (q*50)).take 50=yf l[q]:=by
 have h1:(l.flatMap yf).length=l.length*50:=zf qR l;obtain⟨a1,a2,_⟩:=atX qR h;have h2:q*50+50≤l.length*50:=by omega
 refine⟨by rw[zuQ];omega,?_⟩;rw[zxE (by omega),zw3 (by rw[zvX];omega)];exact a2
theorem cloP(c:Clo):((yf c).drop 8).take 41=zC c.p:=by have h:=YU c.p;show(zC c.p++[xi c.seq]).take 41=_;rw[zw3 (by omega),zvE (by omega)]
theorem cloC(c:Clo):((yf c).drop 25).take 8=zi c.p.cl:=by simp[yf,zC,pC,zQ,zi,zD]
set_option maxRecDepth 8000 in
theorem YV{g:XH}{o:Eo}{e:Ent}(h:EntP g o e)(hL:EntL e)(p:Int)(hp:p≤9223372036854775807):Cl C (fun _=>False) 32 [.s (.ptr o.i 0 0),fi p] g fun u g'=>u=zfa (qN e p)∧g'=g:=by
 obtain⟨nd,⟨w,wf,junk,h0,hi,hc,hf⟩,hst,hr⟩:=h;have li:=zd hi;have lc:=zd hc;have hfs:=hL.st.p;simp[zm] at hfs;refine Cl.ip rfl (zuI rfl) fun Ψ hΨ=> ?_;simp[hi,li];have bad:∀J,qN e p=none→Gh (fun _=>False) g Ψ (.tup [.agg YP,fb false]) (g++J):=fun J h=>Gh.pure (.t2 (.agg zko) (.s (.lt (by simp)))) (hΨ _ _ ⟨by rw[h];rfl,rfl⟩);refine zc (fun c1=> ?_) (fun c1=> ?_)
 ·simp at c1;simp;exact bad _ (by simp[qN,c1])
 simp at c1;obtain⟨q,hq⟩:∃q:Nat,p-e.first=(q:Int):=⟨(p-e.first).toNat,by omega⟩
 have hw:IntKind.i64.wrap (p-e.first)=(q:Int):=by rw[hq];exact ze (by omega) (by omega)
 have hP:qN e p=(e.cs[q]?).map (·.p):=by simp[qN,show¬p<e.first by omega,hq]
 simp[hw,hi,li];refine zc (fun c2=> ?_) (fun c2=> ?_)
 ·simp at c2;simp;exact bad _ (by rw[hP];simp[c2])
 simp at c2;obtain⟨x1,x2⟩:=znc (junk:=junk) c2;obtain⟨hc1,_,hc2,hc3,_⟩:=hL.cs _ (zvi c2);rw[zuW c2,zve] at hP;generalize e.cs[q]=c at *;have x3:=subX (a:=8) (n:=41) x2 (by decide);simp only[cloP] at x3;generalize e.cs.flatMap yf++junk=X at *;simp[hi,li,c2,hc,lc,x3,show q*50+8+41≤X.length by omega,show¬X=[] from fun e=>by rw[e] at x1;simp at x1];refine zb.go0 (zjA hc1) ?_;simp[zC,pC,zQ,zi,zD];exact Gh.pure (u':= .tup [.agg (zC c.p),fb true]) (.t2 (.agg (.lts (Qv _ c.p))) (.s (.lt (by simp)))) (hΨ _ _ ⟨by rw[hP];rfl,rfl⟩)
def qC(e:Ent):Bal:=match e.cs.getLast? with
 |some c=>c.p.cl
 |none=>Zt
theorem zi4{g:XH}{o:Eo}{e:Ent}(h:EntP g o e)(hL:EntL e):Cl C (fun _=>False) 151 [.s (.ptr o.i 0 0)] g fun u g'=>u= .agg (zi (qC e))∧g'=g:=by
 obtain⟨nd,⟨w,wf,junk,h0,hi,hc,hf⟩,hst,hr⟩:=h;have li:=zd hi;have lc:=zd hc;have hll:=hL.cl;have hlh:=hL.st.hi;refine Cl.ip rfl (zuI rfl) fun Ψ hΨ=> ?_;simp[hi,li];refine zc (fun c1=> ?_) (fun c1=> ?_)
 ·simp at c1;simp;refine zb.go0 zp4 ?_;simp[zi];exact Gh.pure (u':= .agg (zi Zt)) (.agg (.lts (Qt _ _))) (hΨ _ _ ⟨by simp[qC,c1],rfl⟩)
 ·simp at c1;have c2:e.cs.length-1<e.cs.length:=by have:=List.length_pos_iff.2 c1;omega
  have e1:qC e=e.cs[e.cs.length-1].p.cl:=by simp[qC,zxj,zuW c2]
  have hw:IntKind.i64.wrap ((e.cs.length:Int)-1)=((e.cs.length-1:Nat):Int):=by rw[ze (by omega) (by omega)];omega
  obtain⟨x1,x2⟩:=znc (junk:=junk) c2;have x3:=subX (a:=25) (n:=8) x2 (by decide);rw[cloC] at x3;rw[←e1] at x3;clear e1 x2;generalize e.cs.flatMap yf++junk=X at *;generalize e.cs.length-1=q at *;simp[zi,hi,li,hc,lc,hw,c2,x3,show q*50+25+8≤X.length by omega,show¬X=[] from fun e=>by rw[e] at x1;simp at x1];exact Gh.pure (u':= .agg (zi (qC e))) (.agg (.lts (Qt _ _))) (hΨ _ _ ⟨rfl,rfl⟩)
def jt(e:Ent)(p n:Int):Int×Sta:=
 match qN e p with
 |none=>(3,e.s)
 |some q=>
  if e.s.filed.contains p then(4,e.s)
  else if(qO n q.rate q.cur.tax).2≠0 then((qO n q.rate q.cur.tax).2,e.s)
  else if(qw e.s.up (qO n q.rate q.cur.tax).1).1≠0 then((qw e.s.up (qO n q.rate q.cur.tax).1).1,e.s)
  else(0,{e.s with up:=(qw e.s.up (qO n q.rate q.cur.tax).1).2,filed:=e.s.filed++[p]})
theorem QD{e:Ent}{p:Int}{q:Pro}(h:qN e p=some q):∃c∈e.cs,c.p=q:=by
 unfold qN at h;split at h
 ·simp at h
 ·rw[zuL] at h;obtain⟨c,h1,h2⟩:=h;exact⟨c,zvu h1,h2⟩
theorem EntP.setF{g:XH}{o:Eo}{e:Ent}(h:EntP g o e){w wf:Nat}(hi:g[o.i]? =some (.own 0 108 14 (zcd e o w wf)))(s':Sta){p:Int}(hf:s'.filed=e.s.filed++[p])(hr:s'.reg=e.s.reg){G:XH}(h1:G[o.i]? =some (.own 0 108 14 (zcd {e with s:=s'} o w (wf+1))))(h2:G[o.f]? =some (.own (wf+1) 3 1 (s'.filed.flatMap zR)))(hs:Sam (fun x=>x=o.i∨x=o.f) g G):EntP G o {e with s:=s'}:=by
 obtain⟨nd,⟨w',wf',junk,h0,k1,k2,k3⟩,⟨w2,j2,h4,h5,h6⟩,h7⟩:=h;have n:=nd;simp[Eo.ids] at n;have e1:=k1.symm.trans hi;simp at e1;obtain⟨rfl,rfl⟩:wf'=wf∧w'=w:=e1;have h7:g[o.r]? =_:=h7;refine⟨nd,⟨w',wf'+1,junk,h0,h1,?_,h2⟩,⟨w2,j2,h4,?_,?_⟩,?_⟩
 ·rw[hs.same _ (by omega)];exact k2
 ·rw[hs.same _ (by omega)];exact h5
 ·rw[hs.same _ (by omega)];exact h6
 ·show G[o.r]? =_;rw[hs.same _ (by omega),h7];simp only[hr]
theorem zcI(s n:Int):(qw s n).1≠0→(qw s n).2=s:=by
 unfold qw;split
 ·intro _;rfl
 ·split
  ·intro _;rfl
  ·intro h;exact absurd rfl h
set_option maxRecDepth 8000 in
theorem znv{g:XH}{o:Eo}{e:Ent}(h:EntP g o e)(hL:EntL e)(p n:Int)(hp:p≤9223372036854775807):Cl C (fun x=>x∈o.ids) 149 [.s (.ptr o.i 0 0),fi p,fi n] g fun u g'=>u=fi (jt e p n).1∧EntP g' o {e with s:=(jt e p n).2}∧Sam (fun x=>x∈o.ids) g g':=by
 have hP:=h;obtain⟨nd,⟨w,wf,junk,h0,hi,hc,hf⟩,hst,hr⟩:=h;have li:=zd hi;have lf:=zd hf;have hfl:=hL.fl;have hlt:=hP.lt;have nn:=nd;simp[Eo.ids] at nn;refine Cl.ip rfl (zuI rfl) fun Ψ hΨ=> ?_;have bad:∀x J,jt e p n=(x,e.s)→Gh (fun x=>x∈o.ids) g Ψ (fi x) (g++J):=fun x J h=>Gh.pure .i (hΨ _ _ ⟨by rw[h],by rw[h];exact hP,Sam.refl⟩);simp;refine zb.go0 (YV hP hL p hp) ?_;rcases hq:qN e p with _|q
 ·simp[zfa,zC,pC,zQ,zi,zD];exact bad 3 _ (by simp[jt,hq])
 ·have hq2:jt e p n=if e.s.filed.contains p then(4,e.s)
   else if(qO n q.rate q.cur.tax).2≠0 then((qO n q.rate q.cur.tax).2,e.s)
   else if(qw e.s.up (qO n q.rate q.cur.tax).1).1≠0 then((qw e.s.up (qO n q.rate q.cur.tax).1).1,e.s)
   else(0,{e.s with up:=(qw e.s.up (qO n q.rate q.cur.tax).1).2,filed:=e.s.filed++[p]}):=by
   unfold jt;rw[hq]
  obtain⟨c,hc1,hc2⟩:=QD hq;have htx:=(hL.cs c hc1).2.2.2.2;rw[hc2] at htx;simp[zfa,zC,pC,zQ,zi,zD,hi,li];refine zb.go0 (conI (RdX.sl zG hf).app (by omega) p) ?_;simp;refine zc (fun c1=> ?_) (fun c1=> ?_)
  ·simp at c1;simp;exact bad 4 _ (by rw[hq2,zuS (by simpa using c1)])
  rw[zuU (by simpa using c1)] at hq2;simp;refine zb.pure (trueX n q.rate q.cur.tax htx) ?_;generalize qO n q.rate q.cur.tax=v at *;obtain⟨v,er⟩:=v;simp;refine zc (fun c2=> ?_) (fun c2=> ?_)
  ·simp at c2;simp;exact bad er _ (by rw[hq2,zuS c2])
  simp at c2;rw[zuU (by simpa using c2)] at hq2;simp[hi,li];refine zb.go (zi3 (off:=8) (t:=108) (z:=14) (cs:=zcd e o w wf) (by rw[zq li];exact hi) (s:=e.s.up) rfl v) (fun x hx ee=> .inr (by rw[ee];simp[Eo.ids])) ?_;rintro u g' ⟨rfl,rfl⟩;have ha:=zcI e.s.up v;generalize qw e.s.up v=a at *;obtain⟨a1,a2⟩:=a;simp at ha;have hne:¬o.i=o.f:=by omega
  have hne':¬o.f=o.i:=by omega
  simp[li,hi];refine zc (fun c3=> ?_) (fun c3=> ?_)
  ·simp at c3;simp;have e2:=y5 hi;simp at e2;rw[ha c3,e2];exact bad a1 _ (by rw[hq2,zuS (by simpa using c3)])
  simp at c3;rw[zuU (by simpa using c3)] at hq2;simp[li,hi,hf,lf,hne,hne',show(e.s.filed.length+1)*8≤140737488355328 by omega];have hfll:(e.s.filed.flatMap zR).length=e.s.filed.length:=by rw[zf zG,zxX]
  refine⟨.inr (by simp[Eo.ids]),?_⟩;simp[li,lf,hne,hne',hfll];refine⟨.inr (by simp[Eo.ids]),?_⟩;have hS:∀A B D,Sam (fun x=>x=o.i∨x=o.f) g (((g.set o.i A).set o.f B).set o.i D):=fun A B D=>((Sam.set (.inl rfl) _).trans (Sam.set (.inr rfl) _)).trans (Sam.set (.inl rfl) _);have hE:∀A,EntP (((g.set o.i A).set o.f (.own (wf+1) 3 1 (e.s.filed.flatMap zR++[xi p]))).set o.i (.own 0 108 14 (zcd {e with s:={e.s with up:=a2,filed:=e.s.filed++[p]}} o w (wf+1)))) o {e with s:={e.s with up:=a2,filed:=e.s.filed++[p]}}:=fun A=>hP.setF hi {e.s with up:=a2,filed:=e.s.filed++[p]} (p:=p) rfl rfl (zu3 (by simp;exact li)) (by rw[zuT hne,zu3 (by simp;exact lf)];simp) (hS _ _ _);have hS2:∀A B D,Sam (fun x=>x∈o.ids) g (((g.set o.i A).set o.f B).set o.i D):=fun A B D=>(hS A B D).mono fun j hj=>by rcases hj with rfl|rfl<;>simp[Eo.ids]
  have hE2:=hE (.own 0 108 14 (zcd {e with s:={e.s with up:=a2}} o w wf));simp at hE2;refine qS (hE2.upd (hS2 _ _ _)) (by simp) (hΨ _ _ ⟨by rw[hq2],by rw[hq2];exact hE2,hS2 _ _ _⟩)
theorem ztg{g:XH}{o:Eo}{e:Ent}(h:EntP g o e)(hL:EntL e){a b c:Nat}{p n:Int}(hp:p≤9223372036854775807)(ha:g[a]? =some (.own 0 45 1 [.ptr o.i 0 0]))(hb:g[b]? =some (.own 0 3 1 [xi p]))(hc:g[c]? =some (.own 0 3 1 [xi n])):Cl C (fun x=>x∈o.ids) 148 [.s (.ptr a 0 0),.s (.ptr b 0 0),.s (.ptr c 0 0)] g fun u g'=>u=fi (jt e p n).1∧EntP g' o {e with s:=(jt e p n).2}∧Sam (fun x=>x∈o.ids) g g':=by have la:=zd ha;have lb:=zd hb;have lc:=zd hc;refine Cl.ip rfl (zuI rfl) fun Ψ hΨ=> ?_;simp[ha,la,hb,lb,hc,lc];refine zb.go (znv h hL p n hp) (fun x hx e=> .inr e) ?_;rintro u g' ⟨rfl,h1,h2⟩;simp;exact Gh.here (hΨ _ _ ⟨rfl,h1,h2⟩)
theorem zqm{g:XH}{o:Eo}{e:Ent}(h:EntP g o e)(hL:EntL e)(t:XV)(p n:Int)(hp:p≤9223372036854775807):Cl C (fun x=>x∈o.ids) 75 [.s (.ptr o.i 0 0),.s t,fi p,fi n] g fun u g'=>u=fi (zz e (jt e p n)).1∧EntP g' o (zz e (jt e p n)).2∧Sam (fun x=>x∈o.ids) g g':=by refine Cl.ip rfl (zuI rfl) fun Ψ hΨ=> ?_;simp;refine zb.go (ZF (g:=g++[.own 0 45 1 [.ptr o.i 0 0],.own 0 3 1 [xi p],.own 0 3 1 [xi n],.clo 148 [] [.s (.ptr g.length 0 0),.s (.ptr (g.length+1) 0 0),.s (.ptr (g.length+2) 0 0)]]) h.app hL.st (k:=g.length+3) (f:=148) (a:=[]) (b:=[.s (.ptr g.length 0 0),.s (.ptr (g.length+1) 0 0),.s (.ptr (g.length+2) 0 0)]) (by simp) (jt e p n) (ztg h.app hL (a:=g.length) (b:=g.length+1) (c:=g.length+2) hp (by simp) (by simp) (by simp))) (fun x hx e=> .inr e) ?_;rintro u g' ⟨rfl,hE,hS⟩;simp;exact zad hE hS h.lt (by simp) fun G h1 h2=>hΨ _ _ ⟨rfl,h2,h1⟩
theorem zfp{l:List Vi}(hI:LosI l)(book perm moved cap life year r:Int){res:Res}{left:List Vi}(h:Zw l book perm moved cap life year r=(0,res,left)):res.vec.length≤12∧za res.tax=true:=by
 unfold Zw at h;split at h
 ·simp at h
 rename_i k1;split at h
 ·simp at h
 rename_i k2;have hr:zn r=true:=by
  cases hh:zn r with
  |true=>rfl
  |false=>exact absurd (.inr (.inl (by simp[hh]))) k1
 simp[zn] at hr;have hk:=hI.kept year;have hkl:=hk.len;have hnm:za (book+perm-moved)=true:=by simp[Jp,Jq] at k2;rw[zxr,zxW];exact k2.2.2.2.2
 generalize book+perm-moved=n at *;have hroom:=Qe n cap hnm;have h0:za (zg 0 r)=true:=by have:=Qa (n:=0) (r:=r) (by omega) (by omega);simp[za];omega
 simp only at h;split at h
 ·rename_i hn;have hv3:=YO year (yy year l) (ju n cap);have hv2:=za6 year (yy year l) (ju n cap) hroom.1 (fun v hv=>(hk.m v hv).1);have h3:=hroom.2.2 (by omega);simp only[zuK,true_and] at h;obtain⟨rfl,rfl⟩:=h;refine⟨by simp only;omega,?_⟩;simp[za] at hnm;have:=Qa (n:=n-(j7 year (ju n cap) (yy year l)).sum) (r:=r) (by omega) (by omega);simp[za];omega
 ·split at h
  ·split at h
   ·simp only[zuK,true_and] at h;obtain⟨rfl,rfl⟩:=h;exact⟨by simp,h0⟩
   ·rename_i hh;simp only[zuK] at h;exact absurd h.1 hh
  ·simp only[zuK,true_and] at h;obtain⟨rfl,rfl⟩:=h;exact⟨by simp,h0⟩
theorem zdI(l:List Li):(ql l).length≤7:=by unfold ql;refine zvB (zwa _ _) ?_;simp
theorem zdF(t:List Rw)(inp:Inp){op:Bal}(hop:BalL op){l:List Vi}(hI:LosI l){rows:List Bu}(hrl:rows.length≤400)(he:(jk t inp op l rows).1=0):(ProC (jk t inp op l rows).2.1∧ProL (jk t inp op l rows).2.1∧za (jk t inp op l rows).2.1.cur.tax=true)∧(j0 (jk t inp op l rows).2.1).length≤1000∧LosI (jk t inp op l rows).2.2:=by
 suffices h:∀m,jk t inp op l rows=m→m.1=0→(ProC m.2.1∧ProL m.2.1∧za m.2.1.cur.tax=true)∧LosI m.2.2 by
  obtain⟨h1,h2⟩:=h _ rfl he;refine⟨h1,?_,h2⟩;unfold j0;split
  ·have:=zdI (Y1 (jk t inp op l rows).2.1);omega
  ·simp
 intro m hm h0;unfold jk at hm;split at hm
 ·subst hm;simp at h0
 split at hm
 ·subst hm;simp at h0
 rename_i r hr;split at hm
 ·subst hm;simp at h0
 split at hm
 ·subst hm;simp at h0
 rename_i rates hrt;have hl1:=ZO _ _ _ _ _ hrt;rw[zvb] at hl1;have hf:=Zs op.b rows;have hob:=hop.lb;simp only at hm;split at hm
 ·rename_i hne;subst hm;exact absurd h0 hne
 rename_i ht;simp only[ne_eq,Decidable.not_not] at ht;obtain⟨res,left,htx⟩:∃res left,Zw l inp.book inp.perm (JW (zw op.b rows)) inp.cap inp.life (inp.p.tdiv 4) r=(0,res,left):=⟨_,_,by rw[←ht]⟩
 have hleft:=zk4 hI _ _ _ _ _ _ _ htx;obtain⟨hv,htax⟩:=zfp hI _ _ _ _ _ _ _ htx;rw[htx] at hm;simp only at hm;split at hm
 ·rename_i hne;subst hm;exact absurd h0 hne
 split at hm
 ·rename_i hne;subst hm;exact absurd h0 hne
 split at hm
 ·rename_i hne;subst hm;exact absurd h0 hne
 split at hm
 ·subst hm;simp at h0
 rename_i now hnow;have hl2:=ZO _ _ _ _ _ hnow;rw[zvb] at hl2;split at hm
 ·rename_i hne;subst hm;exact absurd h0 hne
 split at hm
 ·subst hm;refine⟨⟨⟨hop,⟨by simp only;omega,by simp only;omega⟩,by simp only;omega,by simp only;omega,by simp only;omega⟩,⟨by simp only;omega,by simp only;omega,by simp only;omega,hop,⟨by simp only;omega,by simp only;omega⟩⟩,htax⟩,hleft⟩
 ·subst hm;simp at h0
theorem j8.old{g:XH}{i k:Nat}{l:List Jo}(h:j8 g i k l){n:Nat}(hk:k<n):∀j,j=i∨j=k→∀x:XO,g[j]? =some x→lvO n x:=by
 obtain⟨w,h1,h2⟩:=h;rintro j (rfl|rfl) x hx
 ·rw[h1] at hx;cases hx;simp[lvO,hk]
 ·rw[h2] at hx;cases hx;simp[lvO]
theorem j8.sam{g G:XH}{i k:Nat}{l:List Jo}(h:j8 g i k l)(h1:G[i]? =g[i]?)(h2:G[k]? =g[k]?):j8 G i k l:=by obtain⟨w,a,b⟩:=h;exact⟨w,by rw[h1];exact a,by rw[h2];exact b⟩
theorem Sam.app{S:Nat→Prop}{g G:XH}(h:Sam S g G)(J:XH):Sam S (g++J) (G++J):=by
 refine⟨by simp[h.len],fun j hj=> ?_⟩;by_cases hl:j<g.length
 ·rw[zuN hl,zuN (by rw[h.len];exact hl),h.same j hj]
 ·have hgl:=h.len;rw[zuP (by omega),zuP (by omega),hgl]
abbrev esS(o:Eo)(si sk:Nat):Nat→Prop:=fun x=>x∈o.ids∨x=si∨x=sk
theorem zso{W:Nat→Prop}{g J g':XH}{o:Eo}{e:Ent}{si sk:Nat}{js:List Jo}{u:XF}{Ψ:XF→XH→Prop}(h:EntP g' o e)(h2:j8 g' si sk js)(hs:Sam (esS o si sk) (g++J) g')(hl:∀i∈o.ids,i<g.length)(l2:si<g.length)(l3:sk<g.length)(hu:lvF g.length u)(hp:∀G,Sam (esS o si sk) g G→EntP G o e→j8 G si sk js→Ψ u G):Gh W g Ψ u g':=by
 obtain⟨G,rfl,h1⟩:=hs.cut (fun j hj=>hj.elim (hl j) fun hj=>hj.elim (fun e=>e▸l2) (fun e=>e▸l3));have k1:EntP G o e:=h.same fun i hi=>(zq (by rw[h1.len];exact hl i hi)).symm;have k2:j8 G si sk js:=h2.sam (zq (by rw[h1.len];exact l2)).symm (zq (by rw[h1.len];exact l3)).symm;refine qS (S:=esS o si sk) ⟨h1.len,h1.same,fun j x hx=> ?_⟩ hu (hp G h1 k1 k2);by_cases hj:esS o si sk j
 ·rcases hj with hj|hj
  ·exact .inr (k1.old hl j hj x hx)
  ·exact .inr (k2.old l3 j hj x hx)
 ·rw[h1.same j hj] at hx;exact .inl hx
theorem ziq{g:XH}{i k:Nat}{l:List Jo}(h:j8 g i k l)(hne:i≠k)(hl:StoL l)(id:ByteArray)(p kind of:Int){v:XV}{ls:List Li}(hr:v=zem ls)(hls:ls.length≤1000):Cl C (fun x=>x=i∨x=k) 152 [.s (.ptr i 0 0),fs id,fi p,fi kind,fi of,.s v] g fun u g'=>u= .tup [fi (y8 l id p kind of ls).1,fi (y8 l id p kind of ls).2.1]∧j8 g' i k (y8 l id p kind of ls).2.2∧Sam (fun x=>x=i∨x=k) g g':=by
 have li:i<g.length:=by obtain⟨w,h1,_⟩:=h;exact zd h1
 have lk:k<g.length:=by obtain⟨w,_,h1⟩:=h;exact zd h1
 refine(zru h hne hl id p kind of hr hls).mono ?_;rintro u g' ⟨rfl,w,rfl⟩;refine⟨rfl,⟨w,?_,?_⟩,(Sam.set (.inr rfl) _).trans (Sam.set (.inl rfl) _)⟩
 ·unfold zjX;rw[zu3 (by simp;exact li)]
 ·unfold zjX;rw[zuT hne,zu3 lk]
noncomputable def yq(t:List Rw)(js:List Jo)(e:Ent):Int×Ent×List Jo:=
 if¬zm (yt e.first e.touched)=true then(8,e,js)
 else
  let m:=jk t ⟨e.j,yt e.first e.touched,e.s.book,e.s.perm,e.s.judge,e.s.cap,e.s.life,e.s.up⟩ (qC e) e.s.l (zu ltB e.s.reg)
  if m.1≠0 then(m.1,e,js)
  else
   let q:=y8 js e.id (yt e.first e.touched) 1 0 (j0 m.2.1)
   if q.2.1≠0 then(q.2.1,e,q.2.2)
   else(0,{e with s:={e.s with book:=0,perm:=0,up:=0,l:=m.2.2},cs:=e.cs++[⟨e.s,m.2.1,q.1⟩],touched:=e.touched++[false]},q.2.2)
theorem zl3:BalL Zt:=⟨by simp[Zt],by simp[Zt]⟩
theorem zcv{e:Ent}(hL:EntL e):BalL (qC e):=by
 unfold qC;split
 ·rename_i c h;exact(hL.cs c (zxG h)).1.cl
 ·exact zl3
theorem EntP.setC{G:XH}{o:Eo}{e:Ent}(h:EntP G o e){w wf:Nat}(hi:G[o.i]? =some (.own 0 108 14 (zcd e o w wf)))(s':Sta)(hf:s'.filed=e.s.filed)(hr:s'.reg=e.s.reg)(c:Clo):EntP ((G.set o.c (.own (w+1) 159 50 ((e.cs++[c]).flatMap yf))).set o.i (.own 0 108 14 (zcd {e with s:=s',cs:=e.cs++[c]} o (w+1) wf))) o {e with s:=s',cs:=e.cs++[c]}:=by
 obtain⟨nd,⟨w',wf',junk,h0,h1,h2,h3⟩,⟨w2,j2,h4,h5,h6⟩,h7⟩:=h;have n:=nd;simp[Eo.ids] at n;have li:=zd hi;have lc:=zd h2;have e1:=h1.symm.trans hi;simp at e1;obtain⟨rfl,rfl⟩:wf'=wf∧w'=w:=e1;have h7:G[o.r]? =_:=h7;refine⟨nd,⟨w'+1,wf',[],fun m=>by simp[zt],zu3 (by simp;exact li),?_,?_⟩,⟨w2,j2,h4,?_,?_⟩,?_⟩
 ·rw[zuT (by omega),zu3 lc,zvj]
 ·rw[zuT (by omega),zuT (by omega)];simp only[hf];exact h3
 ·rw[zuT (by omega),zuT (by omega)];exact h5
 ·rw[zuT (by omega),zuT (by omega)];exact h6
 ·show(List.set _ _ _)[o.r]? =_;rw[zuT (by omega),zuT (by omega),h7];simp only[hr]
set_option maxRecDepth 8000 in
theorem znu{g:XH}{o:Eo}{e:Ent}(h:EntP g o e)(hL:EntL e){ti tk:Nat}{t:List Rw}(ht:Zd 145 140 g ti tk t)(htl:t.length≤1000){si sk:Nat}{js:List Jo}(hs:j8 g si sk js)(hsl:StoL js)(hne:si≠sk)(hd:si∉o.ids∧sk∉o.ids):
 Cl C (esS o si sk) 76 [.s (.ptr o.i 0 0),.s (.ptr ti 0 0),.s (.ptr si 0 0)] g fun u g'=>u=fi (yq t js e).1∧EntP g' o (yq t js e).2.1∧j8 g' si sk (yq t js e).2.2∧Sam (esS o si sk) g g':=by
 have hP:=h;obtain⟨nd,⟨w,wf,junk,h0,hi,hc,hf⟩,hst,hr⟩:=h;have li:=zd hi;have hlt:=hP.lt;have lsi:si<g.length:=by obtain⟨w,h1,_⟩:=hs;exact zd h1
 have lsk:sk<g.length:=by obtain⟨w,_,h1⟩:=hs;exact zd h1
 have lti:ti<g.length:=by obtain⟨w,h1,_⟩:=ht;exact zd h1
 have nn:=nd;simp[Eo.ids] at nn;refine Cl.ip rfl (zuI rfl) fun Ψ hΨ=> ?_;simp[hi,li];refine zb.go0 (zcC hst hL.st) ?_;cases hp:zm (yt e.first e.touched) with
 |false=>
  simp;exact Gh.here (hΨ _ _ (by simp only[yq,hp];exact⟨rfl,hP,hs,Sam.refl⟩))
 |true=>
  generalize hop:yt e.first e.touched=p at *
  simp[hi,li]
  have hcl:yq t js e=if(jk t ⟨e.j,p,e.s.book,e.s.perm,e.s.judge,e.s.cap,e.s.life,e.s.up⟩ (qC e) e.s.l (zu ltB e.s.reg)).1≠0 then((jk t ⟨e.j,p,e.s.book,e.s.perm,e.s.judge,e.s.cap,e.s.life,e.s.up⟩ (qC e) e.s.l (zu ltB e.s.reg)).1,e,js)
   else
    let m:=jk t ⟨e.j,p,e.s.book,e.s.perm,e.s.judge,e.s.cap,e.s.life,e.s.up⟩ (qC e) e.s.l (zu ltB e.s.reg);let q:=y8 js e.id p 1 0 (j0 m.2.1)
    if q.2.1≠0 then(q.2.1,e,q.2.2)
    else(0,{e with s:={e.s with book:=0,perm:=0,up:=0,l:=m.2.2},cs:=e.cs++[⟨e.s,m.2.1,q.1⟩],touched:=e.touched++[false]},q.2.2):=by
   unfold yq;rw[hop,zuU (by simp[hp])]
  refine zy 13 [0,9] (fun _=>False) (by decide) (by decide) ?_;simp only[zu7,zvC,zvh,zvd];simp[hi,li];refine zb.go0 (zi4 hP.app hL) ?_;simp[hi,li];have hM:=fun G (h1:Zd 145 140 G ti tk t) (h2:Ym G o.r e.s.reg)=>zq7 h1 htl ⟨e.j,p,e.s.book,e.s.perm,e.s.judge,e.s.cap,e.s.life,e.s.up⟩ (zcv hL) hL.lo h2 hL.rl hL.rd;have hok:=zdF t ⟨e.j,p,e.s.book,e.s.perm,e.s.judge,e.s.cap,e.s.life,e.s.up⟩ (zcv hL) hL.lo (rows:=zu ltB e.s.reg) (by rw[zJ];exact hL.rl);generalize jk t ⟨e.j,p,e.s.book,e.s.perm,e.s.judge,e.s.cap,e.s.life,e.s.up⟩ (qC e) e.s.l (zu ltB e.s.reg)=m at *;obtain⟨er,x,ls⟩:=m;refine zb.go0 (hM _ ht.app hr.app) ?_;simp[zkC,zC,pC,zQ,zi,zD];refine zc (fun c1=> ?_) (fun c1=> ?_)
  ·simp at c1;simp;rw[zuS c1] at hcl;exact Gh.pure .i (hΨ _ _ (by rw[hcl];exact⟨rfl,hP,hs,Sam.refl⟩))
  simp at c1;rw[zuU (by simpa using c1)] at hcl;obtain⟨hx,hlen,_⟩:=hok c1;subst c1;dsimp only at hcl hx hlen;refine zy 8 [0,10] (fun _=>False) (by decide) (by decide) ?_;simp only[zu7,zvC,zvh,zvd];simp[hi,li];refine zb.go0 (zaW x) ?_;simp[zC,pC,zQ,zi,zD];refine zb.go (ziq hs.app hne hsl e.id p 1 0 rfl hlen) (fun z hz ee=>⟨.inr (.inr ee),.inr trivial⟩) ?_;rintro u G ⟨rfl,hG,hS⟩;have hlx:=(YU x)
  have hGl:G.length=g.length+2:=by rw[hS.len];simp
  have hGj:∀j,j<g.length→j≠si→j≠sk→G[j]? =g[j]? :=fun j h1 h2 h3=>by rw[hS.same j (by simp[h2,h3]),zq h1]
  have hGx:G[g.length+1]? =some (.own 0 84 41 (zC x)):=by rw[hS.same _ (by omega)];simp[zC,pC,zQ,zi,zD]
  have hGe:∀j∈o.ids,G[j]? =g[j]? :=fun j hj=>hGj j (hlt j hj) (fun ee=>hd.1 (ee▸hj)) (fun ee=>hd.2 (ee▸hj));have hPG:EntP G o e:=hP.same hGe;have hSG:=hS.mono (T:=esS o si sk) fun j ee=> .inr ee;have lGx:g.length+1<G.length:=by omega
  have li':o.i<G.length:=by omega
  have hi':G[o.i]? =_:=(hGe o.i (by simp[Eo.ids])).trans hi;have hc':G[o.c]? =_:=(hGe o.c (by simp[Eo.ids])).trans hc;have hf':G[o.f]? =_:=(hGe o.f (by simp[Eo.ids])).trans hf;have lc':=zd hc';generalize y8 js e.id p 1 0 (j0 x)=q at *;obtain⟨seq,pe,js'⟩:=q;simp;refine zc (fun c2=> ?_) (fun c2=> ?_)
  ·simp at c2;simp;rw[zuS (by simpa using c2)] at hcl;exact zso hPG hG hSG hlt lsi lsk (by simp) fun G' h1 h2 h3=>hΨ _ _ (by rw[hcl];exact⟨rfl,h2,h3,h1⟩)
  simp at c2;rw[zuU (by simpa using c2)] at hcl;refine zy 12 [0,10] (fun _=>False) (by decide) (by decide) ?_;simp only[zu7,zvC,zvh,zvd];simp[hi',li'];refine zb.go0 (zeQ e.s (RdX.sl zG hf') hL.fl (by have:=hL.lo.len;omega)) ?_;simp[hGx,lGx,zC,pC,zQ,zi,zD];refine zb.go0 (zjA hx.1) ?_;have hcll:(e.cs.flatMap yf).length=e.cs.length*50:=zf qR e.cs;obtain⟨X,hX⟩:∃X,X=e.cs.flatMap yf++junk:=⟨_,rfl⟩
  have hXl:X.length=e.cs.length*50+junk.length:=by rw[hX,zuQ,hcll]
  have hcut:(if e.cs.length*50=X.length then X else X.take (e.cs.length*50))=e.cs.flatMap yf:=by
   have ee:X.take (e.cs.length*50)=e.cs.flatMap yf:=by rw[hX,←hcll,zwc];rfl
   split
   ·rename_i h;rw[←ee,zvE (by omega)]
   ·exact ee
  rw[←hX] at hc';have hroom:(e.cs.length+1)*536≤140737488355328:=by have:=hL.cl;have:=hL.st.hi;omega
  have hic:¬o.i=o.c:=by omega
  have hci:¬o.c=o.i:=by omega
  simp[zC,pC,zQ,zi,zD,hi',li',hc',lc',hcut,hroom,show e.cs.length*50≤X.length by omega];refine⟨.inr (.inl (by simp[Eo.ids])),?_⟩;simp[hi',li',lc',hic,hci];refine⟨.inr (.inl (by simp[Eo.ids])),?_⟩;have hE2:=hPG.setC hi' {e.s with book:=0,perm:=0,up:=0,l:=ls} rfl rfl ⟨e.s,x,seq⟩;have hS2:∀A B,Sam (esS o si sk) G ((G.set o.c A).set o.i B):=fun A B=>(Sam.set (.inl (by simp[Eo.ids])) _).trans (Sam.set (.inl (by simp[Eo.ids])) _);have hst2:∀A B J,Jz ((G.set o.c A).set o.i B++J) o.st o.sk e.first e.touched:=fun A B J=>by
   obtain⟨w3,j3,k0,k1,k2⟩:=hPG.st;refine Jz.app ⟨w3,j3,k0,?_,?_⟩
   ·rw[zuT (by omega),zuT (by omega)];exact k1
   ·rw[zuT (by omega),zuT (by omega)];exact k2
  have hG2:∀A B J,j8 ((G.set o.c A).set o.i B++J) si sk js':=fun A B J=>by
   have q:∀i∈o.ids,i≠si∧i≠sk:=fun i hi'=>⟨fun ee=>hd.1 (ee▸hi'),fun ee=>hd.2 (ee▸hi')⟩
   have q1:=q o.c (by simp[Eo.ids]);have q2:=q o.i (by simp[Eo.ids]);refine j8.app (hG.sam ?_ ?_)
   ·rw[zuT q2.1,zuT q1.1]
   ·rw[zuT q2.2,zuT q1.2]
  simp[yf,zC,pC,zQ,zi,zD] at hE2;refine zb.go (zoO (hst2 _ _ _) (by omega) hL.st) (fun z hz ee=> .inr (.inl (by rcases ee with rfl|rfl<;>simp[Eo.ids]))) ?_;rintro u g3 ⟨rfl,hT,hU⟩;simp[zfI,hop,hp] at hT⊢;have hE3:=hE2.app.setSt (t:=e.touched++[false]) (fun j hj h1 h2=>hU.same j (by simp[h1,h2])) hT;have nsi:∀i∈o.ids,si≠i∧sk≠i:=fun i hi'=>⟨fun ee=>hd.1 (ee▸hi'),fun ee=>hd.2 (ee▸hi')⟩
  have q1:=nsi o.st (by simp[Eo.ids]);have q2:=nsi o.sk (by simp[Eo.ids]);have hG3:j8 g3 si sk js':=(hG2 _ _ _).sam (hU.same si (by simp[q1.1,q2.1])) (hU.same sk (by simp[q1.2,q2.2]));have hS3:=(((hSG.trans (hS2 _ _)).app _).trans (hU.sam.mono (T:=esS o si sk) fun j ee=> .inl (by rcases ee with rfl|rfl<;>simp[Eo.ids])))
  rw[zvc] at hS3;refine zso hE3 hG3 hS3 hlt lsi lsk (by simp) fun G' h1 h2 h3=>hΨ _ _ (by rw[hcl];exact⟨rfl,h2,h3,h1⟩)
end
end Go.Proofs.YtdmcfjkgopmlgaaGreatDoor.Ev.CA

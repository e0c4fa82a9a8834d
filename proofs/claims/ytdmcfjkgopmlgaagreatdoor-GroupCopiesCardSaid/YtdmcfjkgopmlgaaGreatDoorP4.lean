import Derived.Test.YtdmcfjkgopmlgaaGreatDoorP3
set_option maxRecDepth 4000
set_option maxHeartbeats 4000000
set_option linter.unusedVariables false
set_option linter.unusedSimpArgs false
set_option linter.unusedSectionVars false
namespace Go.Proofs.YtdmcfjkgopmlgaaGreatDoor.Ev
open Go
def isL:EO→Bool
 | .mov _| .nilc _| .fad _ _| .fld _ _ _ _| .ext _ _| .load _ _ _| .iad _ _ _ _| .sli _ _ _ _ _=>true
 |_=>false
theorem zkV{R:XE}(H:HR R){a:XFr}{b:Fr}(h:RFr R a b){o:EO}(hp:isL o=true){v:XF}{g:XH}(e:opX a R.g o=some (v,g)):g=R.g∧∃v',opE b R.h o=some (v',R.h)∧RF R v v':=by
 cases o with
 |load agg n x=>exact zdF H h e
 |mov x=>
  simp only[opX] at e;obtain⟨u,h1,h2⟩:=map_some e;obtain⟨rfl,rfl⟩:=by simpa using h2
  obtain⟨u',h3,h4⟩:=h.od h1;simp only[opE,h3,zvf];exact⟨by trivial,_,rfl,h4⟩
 |nilc x=>
  simp only[opX] at e;split at e
  ·rename_i i w o e1;split at e
   ·rename_i hl;simp only[zuI,zuL] at e;obtain⟨rfl,rfl⟩:=e;obtain⟨t,z,cs,hc⟩:=qs hl;obtain⟨v',_,h2,h3⟩:=h.odv e1;have:=h3.ptr hc;subst this;simp only[opE,h2];exact⟨by trivial,_,rfl,(by simp only[RF];exact h3)⟩
   ·cases e
  ·rename_i cs o e1;simp only[zuI,zuL] at e;obtain⟨rfl,rfl⟩:=e;obtain⟨v',_,h2,h3⟩:=h.odv e1;have h4:=h3;simp only[RV] at h3;obtain⟨j,q,t,vs,rfl,_⟩:=h3;simp only[opE,h2];exact⟨by trivial,_,rfl,(by simp only[RF];exact h4)⟩
  ·cases e
 |sli t z x lo hi=>
  simp only[opX] at e;split at e
  ·rename_i e1;split at e
   ·rename_i e2 e3;simp only[zuI,zuL] at e;obtain⟨rfl,rfl⟩:=e;obtain⟨v1,_,h1,h2⟩:=h.odv e1;simp only[RV] at h2;obtain⟨rfl,_⟩:=h2;simp only[opE,h1,h.bound e2,h.bound e3];exact⟨by trivial,_,rfl,RF.sc rfl⟩
   ·cases e
  ·rename_i i w o n e1;split at e
   ·rename_i l u t' z' cs e2 e3 hc;split at e
    ·rename_i ht;subst ht;split at e
     ·rename_i hlu;split at e
      ·rename_i hun;split at e
       ·cases e
       ·rename_i hw;simp only[zuI,zuL] at e;obtain⟨rfl,rfl⟩:=e;obtain⟨v1,_,h1,h2⟩:=h.odv e1;rcases h2.sl hc with⟨rfl,_⟩|⟨h3,p,rfl⟩
        ·exact absurd rfl hw
        ·obtain⟨vs,h5,h6,_⟩:=H.own hc h3;have h7:cellsOf R.h (R.φ i)=some (t',vs):=by rw[zX,h5];rfl
         simp only[opE,h1,h.bound e2,h.bound e3,h7,if_true];rw[zuT hlu,zuT hun];refine⟨by trivial,_,rfl,?_⟩;simp only[RF];simp only[RV] at h2⊢;exact⟨h2.1,h2.2.1,rfl,fun _=> .inr ⟨h3,_,rfl⟩⟩
      ·cases e
     ·cases e
    ·cases e
   ·cases e
  ·rename_i t' z' n cs e1;split at e
   ·rename_i l u e2 e3;split at e
    ·cases e
    ·rename_i hn;split at e
     ·rename_i ht;obtain⟨rfl,rfl⟩:=ht;split at e
      ·rename_i hlu;split at e
       ·rename_i hun;simp only[zuI,zuL] at e;obtain⟨rfl,rfl⟩:=e;obtain⟨v1,_,h1,h2⟩:=h.odv e1;simp only[RV] at h2;rcases h2 with⟨h3,_⟩|⟨j,p,o,vs,rfl,h4,h5,h6,h7,h8⟩
        ·exact absurd h3 hn
        ·simp only[opE,h1,h.bound e2,h.bound e3,h5,if_true];rw[zuT hlu,zuT hun];refine⟨by trivial,_,rfl,?_⟩;simp only[RF,RV];have q1:(o+l+(u-l))*z'≤(o+n)*z':=zvu _ (by omega);have q2:(l+(u-l))*z'≤n*z':=zvu _ (by omega);rw[zvI] at q2;have q3:(o+l)*z'=o*z'+l*z':=zvI _ _ _;refine .inr ⟨j,_,_,vs,rfl,h4,h5,?_,zvB q1 h7,?_⟩
         ·rw[zu6,zvY,h6];omega
         ·have:=(h8.drop (l*z')).take ((u-l)*z');rw[zw6,zw5,zwN,zvD (by omega)] at this;rw[q3];exact this
       ·cases e
      ·cases e
     ·cases e
   ·cases e
  ·cases e
 |fad off x=>
  simp only[opX] at e;split at e
  ·rename_i i w o e1;split at e
   ·rename_i hl;simp only[zuI,zuL] at e;obtain⟨rfl,rfl⟩:=e;obtain⟨t,z,cs,hc⟩:=qs hl;obtain⟨v',_,h2,h3⟩:=h.odv e1;have:=h3.ptr hc;subst this;simp only[opE,h2];refine⟨by trivial,_,rfl,?_⟩;simp only[RF];simp only[RV] at h3⊢;exact⟨h3.1,h3.2.1,fun _=>by first|rfl|trivial⟩
   ·cases e
  ·rename_i cs o e1;simp only[zuI,zuL] at e;obtain⟨rfl,rfl⟩:=e;obtain⟨v',_,h2,h3⟩:=h.odv e1;simp only[RV] at h3;obtain⟨j,q,t,vs,rfl,h4⟩:=h3;simp only[opE,h2];refine⟨by trivial,_,rfl,?_⟩;simp only[RF,RV];exact⟨j,q,t,vs,by rw[zwg],h4⟩
  ·cases e
 |fld agg off n x=>
  simp only[opX] at e;split at e
  ·rename_i l e1;obtain⟨m,h1,h2⟩:=h.odg e1;simp only[opE,h1];cases agg with
   |true=>
    simp only[if_true] at e⊢;split at e
    ·rename_i hl;simp only[zuI,zuL] at e;obtain⟨rfl,rfl⟩:=e;rw[zuT (by rw[←h2.len];exact hl)];exact⟨by trivial,_,rfl,(by simp only[RF];exact(h2.drop _).take _)⟩
    ·cases e
   |false=>
    simp only[zvg,if_false] at e⊢;split at e
    ·rename_i u hu;simp only[zuI,zuL] at e;obtain⟨rfl,rfl⟩:=e;obtain⟨y,h3,h4⟩:=h2.get hu;simp only[h3];exact⟨by trivial,_,rfl,(by simp only[RF];exact h4)⟩
    ·cases e
  ·cases e
 |iad t z x i=>
  simp only[opX] at e;split at e
  ·rename_i k' k e2;obtain⟨p,e3,e4⟩:=map_some e;simp only[zuL] at e4;obtain⟨rfl,rfl⟩:=e4;obtain⟨u,e5,e6⟩:=zu1.1 e3;obtain⟨u',h1,h2⟩:=h.od e5;obtain⟨j,q,o,n,vs,rfl,h3,h4,h5,h6⟩:=h2.iad H e6;have h7:odS b x=some (.sl j q o n):=by unfold odS;rw[h1]
   simp only[opE,h7,(h.oda e2).1,h3,if_true];rw[zuT h4,zuT h5];exact⟨by trivial,_,rfl,(by simp only[RF];exact h6)⟩
  ·cases e
 |ext x i=>
  simp only[opX] at e;split at e
  ·rename_i l e1;split at e
   ·rename_i u hu;simp only[zuI,zuL] at e;obtain⟨rfl,rfl⟩:=e;obtain⟨y,h1,h2⟩:=h.od e1;obtain⟨m,rfl,h3⟩:=h2.tup_inv;obtain⟨y,h4,h5⟩:=h3.get hu;simp only[opE,h1,h4];exact⟨by trivial,_,rfl,h5⟩
   ·cases e
  ·cases e
 |_=>cases hp
def slX(fr:XFr)(x:OD):Option Nat:=match odX fr x with
 |some (.s (.ptr i _ _))=>some i
 |some (.s (.sl i _ _ _))=>some i
 |_=>none
def Yy(fr:XFr):EO→Option Nat
 | .nilc x| .fad _ x| .load _ _ x| .iad _ _ x _| .sli _ _ x _ _=>slX fr x
 |_=>none
def znN:XF→Bool
 | .s (.v _)=>true
 |_=>false
def JL(l os:List Nat):Bool:=l.all fun n=>os.contains n
theorem zj8{k:List Nat}{fr:XFr}{n:Nat}(h:n∈k):Zu (yM k fr) n=Zu fr n:=by
 induction k with
 |nil=>cases h
 |cons m k ih=>
  simp only[yM,zu7,Zu];by_cases e:n=m
  ·rw[zuT e,e]
  ·rw[zuV e];exact ih ((zu4.1 h).resolve_left e)
theorem yS{k:List Nat}{fr:XFr}{x:OD}(h:∀n∈odT x,n∈k):odX (yM k fr) x=odX fr x:=by
 cases x with
 |t n=>exact zj8 (h n (by simp[odT]))
 |c v=>rfl
theorem zhW{k:List Nat}{fr:XFr}{x:OD}(h:∀n∈odT x,n∈k):odA (yM k fr) x=odA fr x:=by unfold odA;rw[yS h]
theorem zbV{k:List Nat}{fr:XFr}{d:Nat}{x:Option OD}(h:∀n∈zh2 x,n∈k):qB (yM k fr) d x=qB fr d x:=by
 cases x with
 |none=>rfl
 |some x=>unfold qB;simp only;rw[zhW h]
theorem zon{fr:XFr}{g g0:XH}{o:EO}(hp:isL o=true){v:XF}{g':XH}(hg:∀i,Yy fr o=some i→g[i]? =g0[i]?)(e:opX fr g o=some (v,g')):opX (yM (zV o) fr) g0 o=some (v,g0):=by
 have cc:∀i w,(g[i]? =g0[i]?)→zN g0 i w=zN g i w:=fun i w h=>by unfold zN;rw[h]
 have lc:∀i w,(g[i]? =g0[i]?)→YL g0 i w=YL g i w:=fun i w h=>by unfold YL;rw[cc i w h]
 have rc:∀u,(∀i,(match u with
  | .s (.ptr i _ _)=>some i
  | .s (.sl i _ _ _)=>some i
  |_=>none)=some i→g[i]? =g0[i]?)→rdX g0 u=rdX g u:=fun u h=>by
  cases u with
  |s u=>cases u<;>simp only[rdX];rw[cc _ _ (h _ rfl)]
  |agg l=>rfl
  |tup l=>rfl
 have ic:∀t z k u,(∀i,(match u with
  | .s (.ptr i _ _)=>some i
  | .s (.sl i _ _ _)=>some i
  |_=>none)=some i→g[i]? =g0[i]?)→jM g0 t z k u=jM g t z k u:=fun t z k u h=>by
  cases u with
  |s u=>cases u<;>simp only[jM];rw[cc _ _ (h _ rfl)]
  |agg l=>rfl
  |tup l=>rfl
 cases o with
 |mov x=>
  simp only[opX] at e⊢;rw[yS (k:=zV (.mov x)) (x:=x) (fun n hn=>hn)];obtain⟨u,h1,h2⟩:=map_some e;simp only[zuL] at h2;rw[h1,zvf,h2.1]
 |nilc x=>
  simp only[opX] at e⊢;rw[yS (k:=zV (.nilc x)) (x:=x) (fun n hn=>hn)];split at e
  ·rename_i i w o e1
   try simp only[e1]
   rw[lc i w (hg i (by simp only[Yy,slX,e1]))];split at e
   ·rename_i h;rw[zuT h];simp only[zuI,zuL] at e;rw[e.1]
   ·cases e
  ·rename_i cs o e1;simp only[zuI,zuL] at e
   first|rw[e.1]|simp only[e1,e.1]
  ·cases e
 |fad off x=>
  simp only[opX] at e⊢;rw[yS (k:=zV (.fad off x)) (x:=x) (fun n hn=>hn)];split at e
  ·rename_i i w o e1
   try simp only[e1]
   rw[lc i w (hg i (by simp only[Yy,slX,e1]))];split at e
   ·rename_i h;rw[zuT h];simp only[zuI,zuL] at e;rw[e.1]
   ·cases e
  ·rename_i cs o e1;simp only[zuI,zuL] at e
   first|rw[e.1]|simp only[e1,e.1]
  ·cases e
 |fld agg off n x=>
  simp only[opX] at e⊢;rw[yS (k:=zV (.fld agg off n x)) (x:=x) (fun n hn=>hn)];split at e
  ·rename_i l e1
   try simp only[e1]
   cases agg with
   |true=>
    simp only[if_true] at e⊢;split at e
    ·rename_i h;simp only[zuI,zuL] at e;rw[zuT h,e.1]
    ·cases e
   |false=>
    simp only[zvg,if_false] at e⊢;split at e
    ·rename_i u hu;simp only[zuI,zuL] at e
     first|rw[e.1]|simp only[hu,e.1]
    ·cases e
  ·cases e
 |ext x i=>
  simp only[opX] at e⊢;rw[yS (k:=zV (.ext x i)) (x:=x) (fun n hn=>hn)];split at e
  ·rename_i l e1
   try simp only[e1]
   split at e
   ·rename_i u hu;simp only[zuI,zuL] at e
    first|rw[e.1]|simp only[hu,e.1]
   ·cases e
  ·cases e
 |load agg n x=>
  simp only[opX] at e⊢;rw[yS (k:=zV (.load agg n x)) (x:=x) (fun n hn=>hn)];have hr:(odX fr x).bind (rdX g0)=(odX fr x).bind (rdX g):=by
   cases hx:odX fr x with
   |none=>rfl
   |some u=>exact rc u fun i hi=>hg i (by simp only[Yy,slX,hx];cases u with
    |s u=>cases u<;>exact hi
    |agg l=>cases hi
    |tup l=>cases hi)
  rw[hr];split at e
  ·rename_i cs o e1;obtain⟨w,e4,e5⟩:=map_some e;simp only[zuL] at e5;simp only[e4,zvf,e5.1]
  ·cases e
 |iad t z x i=>
  simp only[opX] at e⊢;rw[yS (k:=zV (.iad t z x i)) (x:=x) (fun n hn=>zuX.2 (.inl hn)),zhW (k:=zV (.iad t z x i)) (x:=i) (fun n hn=>zuX.2 (.inr hn))];split at e
  ·rename_i k' k e2
   try simp only[e2]
   have hr:(odX fr x).bind (jM g0 t z k)=(odX fr x).bind (jM g t z k):=by
    cases hx:odX fr x with
    |none=>rfl
    |some u=>exact ic t z k u fun i hi=>hg i (by simp only[Yy,slX,hx];cases u with
     |s u=>cases u<;>exact hi
     |agg l=>cases hi
     |tup l=>cases hi)
   rw[hr];obtain⟨p,e3,e4⟩:=map_some e;simp only[zuL] at e4;simp only[e3,zvf,e4.1]
  ·cases e
 |sli t z x lo hi=>
  simp only[opX] at e⊢;rw[yS (k:=zV (.sli t z x lo hi)) (x:=x) (fun n hn=>zuX.2 (.inl (zuX.2 (.inl hn))))];simp only[zbV (k:=zV (.sli t z x lo hi)) (x:=lo) (fun n hn=>zuX.2 (.inl (zuX.2 (.inr hn)))),zbV (k:=zV (.sli t z x lo hi)) (x:=hi) (fun n hn=>zuX.2 (.inr hn))];split at e
  ·rename_i e1
   try simp only[e1]
   split at e
   ·rename_i e2 e3;simp only[zuI,zuL] at e
    first|rw[e.1]|simp only[e2,e3,e.1]
   ·cases e
  ·rename_i i w o n e1
   try simp only[e1]
   rw[cc i w (hg i (by simp only[Yy,slX,e1]))];split at e
   ·rename_i l u t' z' cs e2 e3 hc
    try simp only[e2,e3,hc]
    split at e
    ·rename_i h1;split at e
     ·rename_i h2;split at e
      ·rename_i h3;split at e
       ·cases e
       ·rename_i h4;simp only[zuI,zuL] at e;rw[zuT h1,zuT h2,zuT h3,zuV h4,e.1]
      ·cases e
     ·cases e
    ·cases e
   ·cases e
  ·rename_i t' z' n cs e1
   try simp only[e1]
   split at e
   ·rename_i l u e2 e3
    try simp only[e2,e3]
    split at e
    ·cases e
    ·rename_i h0;split at e
     ·rename_i h1;split at e
      ·rename_i h2;split at e
       ·rename_i h3;simp only[zuI,zuL] at e;rw[zuV h0,zuT h1,zuT h2,zuT h3,e.1]
       ·cases e
      ·cases e
     ·cases e
   ·cases e
  ·cases e
 |_=>cases hp
def zoP(fr:Fr):EO→Option Nat
 | .load _ _ x| .iad _ _ x _| .sli _ _ x _ _=>match odS fr x with
   |some (.ptr i _)=>some i
   |some (.sl i _ _ _)=>some i
   |_=>none
 |_=>none
def isA:EO→Bool
 | .load _ _ _| .iad _ _ _ _| .sli _ _ _ _ _=>true
 |_=>false
theorem ztT{fr:Fr}{h h':LH}{o:EO}(hp:isA o=true)(hq:∀i,zoP fr o=some i→h'[i]? =h[i]?){v:FV}(e:opE fr h o=some (v,h)):opE fr h' o=some (v,h'):=by
 have cc:∀i,h'[i]? =h[i]?→cellsOf h' i=cellsOf h i:=fun i hi=>by rw[zX,zX,hi]
 cases o with
 |load agg n x=>
  simp only[opE] at e⊢;split at e
  ·rename_i i o e1
   try simp only[e1]
   rw[cc i (hq i (by simp only[zoP,e1]))];split at e
   ·rename_i t vs hc
    try simp only[hc]
    cases agg with
    |true=>
     simp only[if_true] at e⊢;split at e
     ·rename_i hl;simp only[zuI,zuL] at e;rw[zuT hl,e.1]
     ·cases e
    |false=>
     simp only[zvg,if_false] at e⊢;split at e
     ·rename_i u hu;simp only[zuI,zuL] at e
      first|rw[e.1]|simp only[hu,e.1]
     ·cases e
   ·cases e
  ·cases e
 |iad t z x i=>
  simp only[opE] at e⊢;split at e
  ·rename_i j p o n k' k e1 e2
   try simp only[e1,e2]
   rw[cc j (hq j (by simp only[zoP,e1]))];split at e
   ·rename_i t' vs hc
    try simp only[hc]
    split at e
    ·rename_i h1;split at e
     ·rename_i h2;split at e
      ·rename_i h3;simp only[zuI,zuL] at e;rw[zuT h1,zuT h2,zuT h3,e.1]
      ·cases e
     ·cases e
    ·cases e
   ·cases e
  ·cases e
 |sli t z x lo hi=>
  simp only[opE] at e⊢;split at e
  ·rename_i e1
   try simp only[e1]
   split at e
   ·rename_i e2 e3;simp only[zuI,zuL] at e
    first|rw[e.1]|simp only[e2,e3,e.1]
   ·cases e
  ·rename_i i p o n e1
   try simp only[e1]
   rw[cc i (hq i (by simp only[zoP,e1]))];split at e
   ·rename_i l u t' vs e2 e3 hc
    try simp only[e2,e3,hc]
    split at e
    ·rename_i h1;split at e
     ·rename_i h2;split at e
      ·rename_i h3;simp only[zuI,zuL] at e;rw[zuT h1,zuT h2,zuT h3,e.1]
      ·cases e
     ·cases e
    ·cases e
   ·cases e
  ·cases e
 |_=>cases hp
def zgu(os:List Nat)(o:EO)(v:XF):Bool:=znN v||(isL o&&JL (zV o) os)
def zl3(D:Nat→Prop)(os:List Nat)(fr:XFr)(o:EO):Prop:=JL (zV o) os=true→∀i,Yy fr o=some i→¬D i
def nxO(os:List Nat)(d:Option Nat)(b:Bool):List Nat:=match d with
 |some n=>if b then n::os else os.filter fun m=>m !=n
 |none=>os
def wd(C:Nat→Option EF)(B D:Nat→Prop)(n0:Nat)(P:List Nat):Nat→List Nat→List EG→XFr→XH→(XFr→XH→Prop)→Prop
 |_,_,[],fr,g,Φ=>Φ fr g
 |k,os,x::l,fr,g,Φ=>
  let run:=fun fr:XFr=>(P.contains k=true→isA x.op=true∧JL (zV x.op) os=true)∧(isL x.op=true→zl3 D os fr x.op)∧ws C (fun i=>B i∧(n0≤i∨D i)) x.op fr g (fun v g'=>wd C B D n0 P (k+1) (nxO os x.dst (zgu os x.op v)) l (qM fr x.dst (some v)) g' Φ);let skip:=fun fr:XFr=>wd C B D n0 P (k+1) (nxO os x.dst true) l (qM fr x.dst (some (.tup []))) g Φ
  match x.guard with
  |none=>run fr
  |some (s,b)=>match Zu fr s with
   |some (.s (.v (.bool t)))=>match b with
    |true=>br t (run (Zr fr s true)) (skip (Zr fr s false))
    |false=>br t (skip (Zr fr s true)) (run (Zr fr s false))
   |some (.tup [])=>skip fr
   |_=>False
structure St(D:Nat→Prop)(R:XE)(h:LH):Prop where
 le:R.h.length≤h.length
 same:∀q,q<R.h.length→(∀i,D i→sol R i→R.φ i≠q)→h[q]? =R.h[q]?
theorem Ex2.st{D:Nat→Prop}{R R':XE}(x:Ex2 (fun i=>R.g.length≤i∨D i) R R'):St D R R'.h:=⟨x.lh,fun q hq hn=>x.same q hq fun i hi hs=>hn i (hi.resolve_left (by have:=sol_lt hs;omega)) hs⟩
theorem zrv{D:Nat→Prop}{R0:XE}(H0:HR R0){a:XFr}{b:Fr}(h:RFr R0 a b){o:EO}(hp:isA o=true){v:XF}{g:XH}(e:opX a R0.g o=some (v,g))(hD:∀i,Yy a o=some i→¬D i){h1:LH}(st:St D R0 h1):∀q,zoP b o=some q→h1[q]? =R0.h[q]? :=by
 intro q hq
 have key:∀x s,odX a x=some (.s s)→slX a x=Yy a o→(match odS b x with
  |some (.ptr i _)=>some i
  |some (.sl i _ _ _)=>some i
  |_=>none)=some q→(match s with
  | .ptr i w _=>∃t z cs,zN R0.g i w=some (t,z,cs)∧cs≠[]
  | .sl i w _ _=>∃t z cs,zN R0.g i w=some (t,z,cs)
  | .cl _=>False
  |_=>True)→h1[q]? =R0.h[q]? :=by
  intro x s hs hsrc hm hgood;obtain⟨s1,_,h2,h3⟩:=h.odv hs;rw[h2] at hm;have stab:∀i,sol R0 i→¬D i→R0.φ i=q→h1[q]? =R0.h[q]? :=fun i hsol hnd hphi=>by refine st.same q (hphi▸(H0.not_z hsol).2) fun i' hD' hs' he=>hnd ?_;have:=H0.inj i' i hs' hsol (he.trans hphi.symm);exact this▸hD'
  have stabz:R0.z q→h1[q]? =R0.h[q]? :=fun hz=>st.same q (H0.fz q hz) fun i _ hs he=>(H0.not_z hs).1 (he▸hz);cases s with
  |v c=>
   simp only[RV] at h3;obtain⟨rfl,h4⟩:=h3;cases s1<;>simp[nlS] at h4 hm
  |ptr i w p=>
   obtain⟨t,z,cs,hc,hcs⟩:=hgood;have h5:=h3.ptr hc;subst h5;simp only[zuI] at hm;have hs0:Yy a o=some i:=by rw[←hsrc];simp only[slX,hs]
   exact stab i (zgM hc hcs) (hD i hs0) hm
  |sl i w p n=>
   obtain⟨t,z,cs,hc⟩:=hgood;rcases h3.sl hc with⟨_,_,_,rfl|⟨j,p,q,rfl⟩⟩|⟨hcs,p',rfl⟩
   ·simp at hm
   ·simp at hm
   ·simp only[zuI] at hm;have hs0:Yy a o=some i:=by rw[←hsrc];simp only[slX,hs]
    exact stab i hcs (hD i hs0) hm
  |lst t z n cs=>
   simp only[RV] at h3;rcases h3 with⟨_,_,rfl|⟨i,p,o,rfl⟩⟩|⟨j,p,o,vs,rfl,hz,_⟩
   ·simp at hm
   ·simp at hm
   ·simp only[zuI] at hm;exact stabz (hm▸hz)
  |lp cs o=>
   simp only[RV] at h3;obtain⟨j,q',t,vs,rfl,hz,_⟩:=h3;simp only[zuI] at hm;exact stabz (hm▸hz)
  |cl i=>exact hgood.elim
  |nl=>
   simp only[RV] at h3;rcases h3 with rfl|⟨i,p,o,rfl⟩<;>simp at hm
 cases o with
 |load agg n x=>
  simp only[opX] at e;split at e
  ·rename_i cs o e1;obtain⟨u,e2,e3⟩:=zu1.1 e1;obtain⟨w,e4,_⟩:=map_some e;have hne:cs≠[]:=by
    rintro rfl;cases agg<;>simp[ldC] at e4;omega
   cases u with
   |agg l=>simp[rdX] at e3
   |tup l=>simp[rdX] at e3
   |s u=>
    refine key x _ e2 rfl hq ?_;cases u with
    |ptr i w o'=>
     simp only[rdX] at e3;split at e3
     ·rename_i t z cs' hc;simp only[zuI,zuL] at e3;obtain⟨rfl,_⟩:=e3;exact⟨t,z,_,hc,hne⟩
     ·cases e3
    |sl i w o' n'=>simp[rdX] at e3
    |cl i=>simp[rdX] at e3
    |_=>trivial
  ·cases e
 |iad t z x i=>
  simp only[opX] at e;split at e
  ·rename_i k' k e2;obtain⟨p,e3,_⟩:=map_some e;obtain⟨u,e5,e6⟩:=zu1.1 e3;cases u with
   |agg l=>simp[jM] at e6
   |tup l=>simp[jM] at e6
   |s u=>
    refine key x _ e5 rfl hq ?_;cases u with
    |sl i' w o' n'=>
     simp only[jM] at e6;split at e6
     ·rename_i t' z' cs hc;exact⟨_,_,_,hc⟩
     ·cases e6
    |ptr i' w o'=>simp[jM] at e6
    |cl i'=>simp[jM] at e6
    |_=>trivial
  ·cases e
 |sli t z x lo hi=>
  simp only[opX] at e;split at e
  ·rename_i e1;exact key x _ e1 rfl hq trivial
  ·rename_i i w o n e1;split at e
   ·rename_i l u t' z' cs e2 e3 hc;exact key x _ e1 rfl hq ⟨_,_,_,hc⟩
   ·cases e
  ·rename_i t' z' n cs e1;exact key x _ e1 rfl hq trivial
  ·cases e
 |_=>cases hp
def zfA(R0:XE)(os:List Nat)(a:XFr)(b:Fr):Prop:=∀n∈os,(∀x,Zu a n=some x→∃y,yj b n=some y∧RF R0 x y)∧(Zu a n=none→yj b n=none)
theorem zfA.keep{R0:XE}{os:List Nat}{a:XFr}{b:Fr}(h:zfA R0 os a b):∀{k:List Nat},JL k os=true→RFr R0 (yM k a) (zk k b)
 |[],_=>by simp[yM,zk,RFr]
 |n::k,e=>by
  simp only[JL,zwk,zuS] at e;have ih:=zfA.keep h (k:=k) e.2;have hn:=h n (by simpa using e.1);simp only[yM,zk,zu7] at ih⊢;cases e1:Zu a n with
  |none=>rw[hn.2 e1];simp only[RFr];exact⟨trivial,ih⟩
  |some x=>
   obtain⟨y,e2,r⟩:=hn.1 x e1;rw[e2];simp only[RFr];exact⟨trivial,r,ih⟩
theorem zfA.put{R0:XE}{os:List Nat}{a:XFr}{b:Fr}(h:zfA R0 os a b)(d:Option Nat){t:Bool}{v:XF}{v':FV}(hv:t=true→RF R0 v v'):zfA R0 (nxO os d t) (qM a d (some v)) (qw b d (some v')):=by
 cases d with
 |none=>exact h
 |some m=>
  intro n hn;simp only[qM,qw,Zu,yj];by_cases e:n=m
  ·rw[zuT e,zuT e];cases t with
   |true=>exact⟨fun x hx=>⟨v',rfl,by cases hx;exact hv rfl⟩,fun hx=>by cases hx⟩
   |false=>simp[nxO,e] at hn
  ·rw[zuV e,zuV e];cases t with
   |true=>
    simp only[nxO,if_true] at hn;exact h n ((zu4.1 hn).resolve_left e)
   |false=>
    simp only[nxO,zvg,if_false] at hn;exact h n (zvQ.1 hn).1
theorem RFr.olds{R:XE}{a:XFr}{b:Fr}(h:RFr R a b)(os:List Nat):zfA R os a b:=fun n _=>h.get
theorem zom{fr:Fr}{h h':LH}{o:EO}(hp:isL o=true)(ha:isA o=false){v:FV}(e:opE fr h o=some (v,h)):opE fr h' o=some (v,h'):=by
 cases o with
 |mov x=>
  simp only[opE] at e⊢;obtain⟨u,h1,h2⟩:=map_some e;simp only[zuL] at h2;rw[h1,zvf,h2.1]
 |nilc x=>
  simp only[opE] at e⊢;split at e
  ·rename_i e1;simp only[zuI,zuL] at e
   first|rw[e.1]|simp only[e1,e.1]
  ·cases e
 |fad off x=>
  simp only[opE] at e⊢;split at e
  ·rename_i e1;simp only[zuI,zuL] at e
   first|rw[e.1]|simp only[e1,e.1]
  ·cases e
 |fld agg off n x=>
  simp only[opE] at e⊢;split at e
  ·rename_i l e1;cases agg with
   |true=>
    simp only[if_true] at e⊢;split at e
    ·rename_i hl;simp only[zuI,zuL] at e
     try simp only[e1]
     rw[zuT hl,e.1]
    ·cases e
   |false=>
    simp only[zvg,if_false] at e⊢;split at e
    ·rename_i u hu;simp only[zuI,zuL] at e
     try simp only[e1]
     first|rw[e.1]|simp only[hu,e.1]
    ·cases e
  ·cases e
 |ext x i=>
  simp only[opE] at e⊢;split at e
  ·rename_i l e1;split at e
   ·rename_i u hu;simp only[zuI,zuL] at e
    try simp only[e1]
    first|rw[e.1]|simp only[hu,e.1]
   ·cases e
  ·cases e
 |load agg n x=>cases ha
 |iad t z x i=>cases ha
 |sli t z x lo hi=>cases ha
 |_=>cases hp
theorem zdy{o:EO}(h:isL o=true):jz o=false:=by cases o<;>first|rfl|cases h
theorem zol{C:Nat→Option EF}{D:Nat→Prop}{R0 R:XE}(H0:HR R0)(H:HR R)(x:Ex2 (fun i=>R0.g.length≤i∨D i) R0 R){a:XFr}{b:Fr}(h:RFr R a b){os:List Nat}(ho:zfA R0 os a b){o:EO}(hp:isL o=true)(hs:JL (zV o) os=true)(hD:zl3 D os a o){v:XF}{g:XH}(e:opX a R.g o=some (v,g)){v1:FV}(e1:opE b R.h o=some (v1,R.h)):
 RF R0 v v1∧(isA o=true→∀h,St D R0 h→opE b h o=some (v1,h)):=by
 have hk:=ho.keep hs;have hg:∀i,Yy a o=some i→R.g[i]? =R0.g[i]? :=fun i hi=>by
  have hn:=hD hs i hi;have hlt:i<R0.g.length:=by
   have key:∀y:OD,(∀n∈odT y,n∈zV o)→slX a y=some i→i<R0.g.length:=fun y hy hsl=>by
    unfold slX at hsl;have hod:=yS (k:=zV o) (fr:=a) (x:=y) hy;split at hsl
    ·rename_i j w p ej;obtain rfl:=zuK hsl;rw[←hod] at ej;obtain⟨y',_,_,hr⟩:=hk.odv ej;have:=RV.lt _ _ hr;simpa[lvV] using this
    ·rename_i j w p n ej;obtain rfl:=zuK hsl;rw[←hod] at ej;obtain⟨y',_,_,hr⟩:=hk.odv ej;have:=RV.lt _ _ hr;simpa[lvV] using this
    ·cases hsl
   cases o with
   |nilc y=>exact key y (fun n hn=>hn) hi
   |fad off y=>exact key y (fun n hn=>hn) hi
   |load agg n y=>exact key y (fun n hn=>hn) hi
   |iad t z y i'=>exact key y (fun n hn=>zuX.2 (.inl hn)) hi
   |sli t z y lo hi'=>exact key y (fun n hn=>zuX.2 (.inl (zuX.2 (.inl hn)))) hi
   |_=>simp[Yy] at hi
  exact x.gs i hlt fun hb=>hb.elim (fun h=>absurd hlt (Nat.not_lt.2 h)) hn
 have e0:=zon hp hg e;obtain⟨_,v0,e2,r0⟩:=zkV H0 hk hp e0;have st:=x.st;have kb:∀h,opE (zk (zV o) b) h o=opE b h o:=fun h=>by have:=zfr (call:=zv C) (fr:=b) (keep:=zV o) (h:=h) (o:=o) (fun n hn=>hn);unfold zK at this;rw[zdy hp] at this;simpa using this
 have all:∀h,St D R0 h→opE b h o=some (v0,h):=fun h sth=>by
  rw[←kb h];cases ha:isA o with
  |true=>exact ztT ha (zrv H0 hk ha e0 (fun i hi=>hD hs i (by
    have:Yy (yM (zV o) a) o=Yy a o:=by
     cases o with
     |nilc y=>simp only[Yy,slX];rw[yS (k:=zV (.nilc y)) (fun n hn=>hn)]
     |fad off y=>simp only[Yy,slX];rw[yS (k:=zV (.fad off y)) (fun n hn=>hn)]
     |load agg n y=>simp only[Yy,slX];rw[yS (k:=zV (.load agg n y)) (fun n hn=>hn)]
     |iad t z y i'=>simp only[Yy,slX];rw[yS (k:=zV (.iad t z y i')) (fun n hn=>zuX.2 (.inl hn))]
     |sli t z y lo hi'=>simp only[Yy,slX];rw[yS (k:=zV (.sli t z y lo hi')) (fun n hn=>zuX.2 (.inl (zuX.2 (.inl hn))))]
     |_=>rfl
    rw[←this];exact hi)) sth) e2
  |false=>exact zom hp ha e2
 have hv:v0=v1:=by have:=(all R.h st).symm.trans e1;simpa using this
 exact⟨hv▸r0,fun _ h sth=>hv▸all h sth⟩
def TrI(C:Nat→Option EF)(D:Nat→Prop)(R0:XE)(P:List Nat)(tr:List (Option TE)):Prop:=∀i t,tr[i]? =some (some t)→St D R0 t.h∧St D R0 t.h'∧(P.contains i=true→isA t.op=true∧∀h,St D R0 h→zK (zv C) t.fr h t.op=some (t.v,h))
theorem TrI.add{C:Nat→Option EF}{D:Nat→Prop}{R0:XE}{P:List Nat}{tr:List (Option TE)}(h:TrI C D R0 P tr){t:Option TE}(ht:∀x,t=some x→St D R0 x.h∧St D R0 x.h'∧(P.contains tr.length=true→isA x.op=true∧∀h,St D R0 h→zK (zv C) x.fr h x.op=some (x.v,h))):TrI C D R0 P (tr++[t]):=fun i x e=>by
 by_cases hi:i<tr.length
 ·rw[zuO hi] at e;exact h i x e
 ·rw[zuP (by omega)] at e;have:i-tr.length=0:=by
   by_cases h0:i-tr.length=0
   ·exact h0
   ·rw[zvU (by simp;omega)] at e;cases e
  rw[this] at e;simp only[zvC,zuI] at e;have hi':i=tr.length:=by omega
  rw[hi'];exact ht x e
theorem Ze{C:Nat→Option EF}{B D:Nat→Prop}{R0:XE}(H0:HR R0){P:List Nat}:∀{l:List EG} {k:Nat} {os:List Nat} {R:XE} (H:HR R) (x0:Ex2 (fun i=>B i∧(R0.g.length≤i∨D i)) R0 R) {a:XFr} {b:Fr} (h:RFr R a b) (ho:zfA R0 os a b) {tr:List (Option TE)} (hk:tr.length=k) (ht:TrI C D R0 P tr) {Φ:XFr→XH→Prop} (w:wd C B D R0.g.length P k os l a R.g Φ),
 WT C l b R.h tr (fun tr' fr1 h1=>TrI C D R0 P tr'∧tr'.length=k+l.length∧∃R' fr,R'.h=h1∧HR R'∧Ex2 B R0 R'∧RFr R' fr fr1∧Φ fr R'.g)
 |[],k,os,R,H,x0,a,b,h,ho,tr,hk,ht,Φ,w=>by
  rw[zoX];exact⟨ht,by simp[hk],R,a,rfl,H,x0.wide fun i _ hb=>hb.1,h,w⟩
 |x::l,k,os,R,H,x0,a,b,h,ho,tr,hk,ht,Φ,w=>by
  have xE:Ex2 (fun i=>R0.g.length≤i∨D i) R0 R:=x0.wide fun i _ hb=>hb.2;have run:jo b x.guard=some true→((P.contains k=true→isA x.op=true∧JL (zV x.op) os=true)∧(isL x.op=true→zl3 D os a x.op)∧ws C (fun i=>B i∧(R0.g.length≤i∨D i)) x.op a R.g (fun v g'=>wd C B D R0.g.length P (k+1) (nxO os x.dst (zgu os x.op v)) l (qM a x.dst (some v)) g' Φ))→WT C (x::l) b R.h tr (fun tr' fr1 h1=>TrI C D R0 P tr'∧tr'.length=k+(x::l).length∧∃R' fr,R'.h=h1∧HR R'∧Ex2 B R0 R'∧RFr R' fr fr1∧Φ fr R'.g):=by
   rintro hw ⟨hP,hld,w⟩;rw[Qm,hw];simp only
   --one operation
   have step:∃v1 R' v,zK (zv C) b R.h x.op=some (v1,R'.h)∧HR R'∧Ex2 (fun i=>B i∧(R0.g.length≤i∨D i)) R R'∧RF R' v v1∧wd C B D R0.g.length P (k+1) (nxO os x.dst (zgu os x.op v)) l (qM a x.dst (some v)) R'.g Φ∧(isL x.op=true→JL (zV x.op) os=true→RF R0 v v1∧(isA x.op=true→∀h,St D R0 h→opE b h x.op=some (v1,h))):=by
    cases hL:isL x.op with
    |false=>
     obtain⟨v1,h1,e,R',v,rfl,a2,a3,a4,a5⟩:=zpe H h w;exact⟨v1,R',v,e,a2,a3,a4,a5,fun hf=>by cases hf⟩
    |true=>
     have e0:mx (opX a R.g x.op) (fun v g'=>wd C B D R0.g.length P (k+1) (nxO os x.dst (zgu os x.op v)) l (qM a x.dst (some v)) g' Φ):=by
      generalize x.op=o at hL w;cases o<;>first|(cases hL;done)|exact w
     unfold mx at e0;split at e0
     ·rename_i v g e1;obtain⟨rfl,v1,e2,r⟩:=zkV H h hL e1;refine⟨v1,R,v,?_,H,Ex2.refl _ _,r,e0,fun _ hs=> ?_⟩
      ·unfold zK;rw[zdy hL];simpa using e2
      ·exact zol (C:=C) H0 H xE h ho hL hs (hld hL) e1 e2
     ·exact e0.elim
   obtain⟨v1,R',v,e,a2,a3,a4,a5,a6⟩:=step;rw[e];rw[zkN,zcN];have xE':Ex2 (fun i=>R0.g.length≤i∨D i) R0 R':=(x0.trans a3).wide fun i _ hb=>hb.2;have hold:zgu os x.op v=true→RF R0 v v1:=fun hh=>by
    unfold zgu at hh;rw[zvT] at hh;rcases hh with hh|hh
    ·cases v with
     |s c=>
      cases c<;>simp[znN] at hh;obtain⟨y,rfl,r⟩:=a4.s_inv;simp only[RF,RV] at r⊢;exact r
     |agg l=>simp[znN] at hh
     |tup l=>simp[znN] at hh
    ·rw[zuS] at hh;exact(a6 hh.1 hh.2).1
   have:=Ze H0 (l:=l) a2 (x0.trans a3) ((h.mono H a3).put x.dst a4) (ho.put x.dst hold) (tr:=tr++[some ⟨zk (zI x) b,R.h,x.op,v1,R'.h⟩]) (k:=k+1) (by simp[hk]) (ht.add fun t et=>by
    obtain rfl:=zuK et;refine⟨xE.st,xE'.st,fun hp=> ?_⟩;rw[hk] at hp;obtain⟨hA,hs⟩:=hP hp;have hL:isL x.op=true:=by
     generalize x.op=o at hA;cases o<;>first|rfl|cases hA
    refine⟨hA,fun h' sth=> ?_⟩;rw[zak];unfold zK;rw[zdy hL];simpa using(a6 hL hs).2 hA h' sth) a5
   have e3:k+1+l.length=k+(x::l).length:=by simp;omega
   rwa [e3] at this
  have skip:jo b x.guard=some false→wd C B D R0.g.length P (k+1) (nxO os x.dst true) l (qM a x.dst (some (.tup []))) R.g Φ→WT C (x::l) b R.h tr (fun tr' fr1 h1=>TrI C D R0 P tr'∧tr'.length=k+(x::l).length∧∃R' fr,R'.h=h1∧HR R'∧Ex2 B R0 R'∧RFr R' fr fr1∧Φ fr R'.g):=by
   intro hw w;rw[Qm,hw];simp only;have:=Ze H0 (l:=l) H x0 (h.put x.dst (v:= .tup []) (v':= .tup []) (by simp[RF,RFs])) (ho.put x.dst (t:=true) (v:= .tup []) (v':= .tup []) fun _=>by simp[RF,RFs]) (tr:=tr++[none]) (k:=k+1) (by simp[hk]) (ht.add fun t et=>by cases et) w;have e3:k+1+l.length=k+(x::l).length:=by simp;omega
   rwa [e3] at this
  simp only[wd] at w;split at w
  ·rename_i hg;exact run (by rw[hg];rfl) w
  ·rename_i s t hg;split at w
   ·rename_i u e;obtain⟨y,h1,h2⟩:=h.get.1 _ e;obtain⟨c,rfl,h3⟩:=h2.s_inv;simp only[RV] at h3;obtain⟨rfl,_⟩:=h3;have hw:jo b x.guard=some (u==t):=by rw[hg];simp only[jo,h1]
    cases t<;>cases u<;>simp only[br,zbS e] at w
    ·exact run (by rw[hw];rfl) w
    ·exact skip (by rw[hw];rfl) w
    ·exact skip (by rw[hw];rfl) w
    ·exact run (by rw[hw];rfl) w
   ·rename_i e;obtain⟨y,h1,h2⟩:=h.get.1 _ e;obtain⟨m,rfl,h3⟩:=h2.tup_inv;cases m with
    |nil=>exact skip (by rw[hg];simp only[jo,h1]) w
    |cons _ _=>simp[RFs] at h3
   ·exact w.elim
theorem Zb{C:Nat→Option EF}{D:Nat→Prop}{R0:XE}{P:List Nat}{tr:List (Option TE)}(ht:TrI C D R0 P tr):∀{ps:List (Nat×Nat)},(ps.all fun p=>P.contains p.1&&decide (p.1<tr.length)&&decide (p.2<tr.length))=true→yd (zv C) tr ps
 |[],_=>trivial
 |p::ps,h=>by
  simp only[zwk,zuS,zuZ] at h;refine⟨?_,Zb ht (by simpa using h.2)⟩;obtain⟨⟨⟨h1,h2⟩,h3⟩,_⟩:=h;obtain⟨x,ex⟩:∃x,tr[p.1]? =some x:=⟨_,zuY h2⟩
  obtain⟨y,ey⟩:∃y,tr[p.2]? =some y:=⟨_,zuY h3⟩
  unfold j9;rw[ex,ey];cases x with
  |none=>cases y<;>trivial
  |some x=>
   cases y with
   |none=>trivial
   |some y=>
    obtain⟨_,_,q⟩:=ht _ _ ex;obtain⟨q1,q2⟩:=q h1;obtain⟨s1,s2,_⟩:=ht _ _ ey;refine .inr (.inl ⟨q2 _ s1,q2 _ s2,fun hc=> ?_⟩);exfalso;generalize x.op=o at q1 hc;cases o<;>first|(cases q1;done)|(cases hc;done)
theorem yV{C:Nat→Option EF}:∀{l:List EG} {fr:Fr} {h:LH} {tr:List (Option TE)} {Φ Ψ:List (Option TE)→Fr→LH→Prop},WT C l fr h tr Φ→(∀t f h,Φ t f h→Ψ t f h)→WT C l fr h tr Ψ
 |[],_,_,_,_,_,w,hm=>hm _ _ _ w
 |x::l,fr,h,tr,Φ,Ψ,w,hm=>by
  rw[Qm] at w⊢;split at w
  ·rename_i hw;unfold mt at w⊢;split at w
   ·rename_i v h' e
    try simp only[e]
    rw[zcN] at w⊢;exact yV w hm
   ·exact w.elim
  ·exact yV w hm
  ·exact w.elim
theorem zeH{C:Nat→Option EF}{B:Nat→Prop}(D:Nat→Prop){l:List EG}{ps:List (Nat×Nat)}{keep:List Nat}{fr:XFr}{g:XH}{Φ:Ex→XFr→XH→Prop}(hp:(ps.all fun p=>decide (p.1<l.length)&&decide (p.2<l.length))=true)(w:wd C B D g.length (ps.map (·.1)) 0 (fr.map (·.1)) l fr g (KOx keep Φ)):Ck C B (.draw l ps keep) fr g Φ:=by rintro R fr1 rfl H h;refine qZ ?_;refine yV (Ze (D:=D) H H (Ex2.refl _ _) h (h.olds _) rfl (fun i t e=>by simp at e) w) ?_;rintro tr' fr2 h2 ⟨h3,h4,R',f,rfl,a2,a3,a4,a5⟩;refine⟨Zb h3 ?_,R',yM keep f,rfl,a2,a3,a4.keep keep,a5⟩;rw[zva] at hp⊢;intro p hpm;have:=hp p hpm;simp only[zuS,zuZ] at this⊢;refine⟨⟨?_,by omega⟩,by omega⟩;simpa using⟨p.2,hpm⟩
def KQx(C:Nat→Option EF)(B D:Nat→Prop)(n0:Nat)(P:List Nat)(k:Nat)(os:List Nat)(o:EO)(l:List EG)(Φ:XFr→XH→Prop)(fr:XFr)(d:Option Nat):XF→XH→Prop:=fun v g=>wd C B D n0 P (k+1) (nxO os d (zgu os o v)) l (qM fr d (some v)) g Φ
def run'(C:Nat→Option EF)(B D:Nat→Prop)(n0:Nat)(P:List Nat)(k:Nat)(os:List Nat)(d:Option Nat)(o:EO)(l:List EG)(fr:XFr)(g:XH)(Φ:XFr→XH→Prop):Prop:=(P.contains k=true→isA o=true∧JL (zV o) os=true)∧(isL o=true→zl3 D os fr o)∧ws C (fun i=>B i∧(n0≤i∨D i)) o fr g (KQx C B D n0 P k os o l Φ fr d)
section
variable {C:Nat→Option EF} {B D:Nat→Prop} {n0:Nat} {P:List Nat} {k:Nat} {os:List Nat} {d:Option Nat} {o:EO} {l:List EG} {fr:XFr} {g:XH} {Φ:XFr→XH→Prop}
end
inductive Dm.{u} {α:Sort u} (a:α):Type
 |mk:Dm a
section
variable (C:Nat→Option EF) (B:Nat→Prop)
def xbr(t:Bool)(A A':Prop)(_:Dm (A∧A')):Prop:=br t A A'
def xan(A A':Prop)(_:Dm (A∧A')):Prop:=A∧A'
def xmx(r:Option (XF×XH))(Ψ:XF→XH→Prop)(_:Dm Ψ):Prop:=mx r Ψ
def xnq(q:Option (Option Bool))(neq:Bool)(g:XH)(Ψ:XF→XH→Prop)(_:Dm (g,Ψ)):Prop:=nq q neq g Ψ
def xca(f:Nat)(as:Option (List XF))(g:XH)(Ψ:XF→XH→Prop)(_:Dm (B,g,Ψ)):Prop:=ca' C B f as g Ψ
def xcv(x:Option XF)(as:Option (List XF))(g:XH)(Ψ:XF→XH→Prop)(_:Dm (B,g,Ψ)):Prop:=cv' C B x as g Ψ
def xcl(o:Option XO)(as:List XF)(g:XH)(Ψ:XF→XH→Prop)(_:Dm (B,as,g,Ψ)):Prop:=match o with
 |some (.clo f first caps)=>zb C B f (first++as++caps) g Ψ
 |_=>False
def xCX(f:Nat)(as:List XF)(g:XH)(Ψ:XF→XH→Prop)(_:Dm (B,Ψ)):Prop:=zb C B f as g Ψ
def xLp(keep:List Nat)(c:EC)(fr:XFr)(g:XH)(Φ:Ex→XFr→XH→Prop)(_:Dm (B,keep,c,Φ)):Prop:=Lp C B keep c fr g Φ
def xCk(c:EC)(fr:XFr)(g:XH)(Φ:Ex→XFr→XH→Prop)(_:Dm (B,c,Φ)):Prop:=Ck C B c fr g Φ
def xpk(c:Option SV)(x y:Option XF)(g:XH)(Ψ:XF→XH→Prop)(_:Dm (g,Ψ)):Prop:=pk c x y g Ψ
def xcd(c:Option SV)(a b:EC)(fr:XFr)(g:XH)(Φ:Ex→XFr→XH→Prop)(_:Dm (B,a,b,fr,g,Φ)):Prop:=cd C B c a b fr g Φ
def xgd(x:Option XF)(s:Nat)(b:Bool)(d:Option Nat)(o:EO)(l:List EG)(fr:XFr)(g:XH)(Φ:XFr→XH→Prop)(_:Dm (B,s,b,d,o,l,fr,g,Φ)):Prop:=gd C B x s b d o l fr g Φ
def xws(o:EO)(fr:XFr)(g:XH)(Ψ:XF→XH→Prop)(_:Dm (B,o,fr,g,Ψ)):Prop:=ws C B o fr g Ψ
def xwo(l:List EG)(fr:XFr)(g:XH)(Φ:XFr→XH→Prop)(_:Dm (B,l,Φ)):Prop:=wo C B l fr g Φ
def xwk(c:EC)(fr:XFr)(g:XH)(Φ:Ex→XFr→XH→Prop)(_:Dm (B,Φ)):Prop:=wk C B c fr g Φ
def xwd(D:Nat→Prop)(n0:Nat)(P:List Nat)(k:Nat)(os:List Nat)(l:List EG)(fr:XFr)(g:XH)(Φ:XFr→XH→Prop)(_:Dm (B,D,n0,P,l,Φ)):Prop:=wd C B D n0 P k os l fr g Φ
def xru(D:Nat→Prop)(n0:Nat)(P:List Nat)(k:Nat)(os:List Nat)(d:Option Nat)(o:EO)(l:List EG)(fr:XFr)(g:XH)(Φ:XFr→XH→Prop)(_:Dm (B,D,n0,P,k,os,d,o,l,g,Φ)):Prop:=run' C B D n0 P k os d o l fr g Φ
def xrs(r:Option (List XF))(Ψ:XF→XH→Prop)(g:XH)(_:Dm Ψ):Prop:=match r with
 |some l=>l.all (fun x=>(fcX x).isSome)=true∧Ψ (zaW l) g
 |none=>False
end
section
variable {C:Nat→Option EF} {B:Nat→Prop} {Φ:Ex→XFr→XH→Prop} {fr:XFr} {g:XH}
theorem x_wk{c:EC}:wk C B c fr g Φ=xwk C B c fr g Φ .mk:=pe
theorem x_Lp{keep:List Nat}{c:EC}:Lp C B keep c fr g Φ=xLp C B keep c fr g Φ .mk:=pe
theorem x_CX{f:Nat}{as:List XF}{Ψ:XF→XH→Prop}:zb C B f as g Ψ=xCX C B f as g Ψ .mk:=pe
theorem x_wd{D:Nat→Prop}{n0:Nat}{P:List Nat}{k:Nat}{os:List Nat}{l:List EG}{Φ:XFr→XH→Prop}:wd C B D n0 P k os l fr g Φ=xwd C B D n0 P k os l fr g Φ .mk:=pe
theorem zph{A A2:Prop}{e:Dm (A∧A2)}:xbr true A A2 e=A:=pe
theorem zmM{A A2:Prop}{e:Dm (A∧A2)}:xbr false A A2 e=A2:=pe
theorem zrO{t:Bool}{A A2:Prop}{e:Dm (A∧A2)}:xbr (!t) A A2 e=xbr t A2 A .mk:=by cases t<;>rfl
theorem zpw{e:Dm (B,Φ)}:xwk C B .skip fr g Φ e=Φ .normal fr g:=pe
theorem zmQ{l:Nat}{e:Dm (B,Φ)}:xwk C B (.label l) fr g Φ e=Φ .normal fr g:=pe
theorem zrR{l:List EG}{keep:List Nat}{e:Dm (B,Φ)}:xwk C B (.ops l keep) fr g Φ e=xwo C B l fr g (KOx keep Φ) .mk:=pe
theorem zps{l:List EG}{keep:List Nat}{e:Dm (B,Φ)}:xwk C B (.draw l [] keep) fr g Φ e=xwo C B l fr g (KOx keep Φ) .mk:=pe
theorem zmP{l:List EG}{p:Nat×Nat}{ps:List (Nat×Nat)}{keep:List Nat}{e:Dm (B,Φ)}:xwk C B (.draw l (p::ps) keep) fr g Φ e=xCk C B (.draw l (p::ps) keep) fr g Φ .mk:=pe
theorem zrT{a b:EC}{e:Dm (B,Φ)}:xwk C B (.seq a b) fr g Φ e=xwk C B a fr g (Kx C B b Φ) .mk:=pe
theorem zpr{c:OD}{a b:EC}{e:Dm (B,Φ)}:xwk C B (.cond c a b) fr g Φ e=xcd C B (odA fr c) a b fr g Φ .mk:=pe
theorem zuq{t:Bool}{a b:EC}{e:Dm (B,a,b,fr,g,Φ)}:xcd C B (some (.bool t)) a b fr g Φ e=xbr t (wk C B a fr g Φ) (wk C B b fr g Φ) .mk:=pe
theorem zmO{id:Nat}{b:EC}{e:Dm (B,Φ)}:xwk C B (.block id b) fr g Φ e=xwk C B b fr g (KBx id Φ) .mk:=pe
theorem zpv{keep:List Nat}{b:EC}{e:Dm (B,Φ)}:xwk C B (.loop keep b) fr g Φ e=xLp C B keep b (yM keep fr) g Φ .mk:=pe
theorem zpt{id:Nat}{keep:List Nat}{e:Dm (B,Φ)}:xwk C B (.exit id keep) fr g Φ e=Φ (.exit id) (yM keep fr) g:=pe
theorem zrS{keep:List Nat}{e:Dm (B,Φ)}:xwk C B (.ret keep) fr g Φ e=Φ .ret (yM keep fr) g:=pe
theorem zpu{l:Nat}{keep:List Nat}{e:Dm (B,Φ)}:xwk C B (.goto l keep) fr g Φ e=Φ (.goto l) (yM keep fr) g:=pe
theorem zj7{b:EC}:Kx C B b Φ .normal fr g=xwk C B b fr g Φ .mk:=pe
theorem zrU{Φ:XFr→XH→Prop}{e:Dm (B,[],Φ)}:xwo C B [] fr g Φ e=Φ fr g:=pe
theorem zuu{d:Option Nat}{o:EO}{l:List EG}{Φ:XFr→XH→Prop}{e:Dm (B,(⟨d,o,none⟩::l:List EG),Φ)}:xwo C B (⟨d,o,none⟩::l) fr g Φ e=xws C B o fr g (KPx C B l Φ fr d) .mk:=pe
theorem zuv{d:Option Nat}{o:EO}{s:Nat}{b:Bool}{l:List EG}{Φ:XFr→XH→Prop}{e:Dm (B,(⟨d,o,some (s,b)⟩::l:List EG),Φ)}:xwo C B (⟨d,o,some (s,b)⟩::l) fr g Φ e=xgd C B (Zu fr s) s b d o l fr g Φ .mk:=pe
theorem zpl{t:Bool}{s:Nat}{d:Option Nat}{o:EO}{l:List EG}{Φ:XFr→XH→Prop}{e:Dm (B,s,true,d,o,l,fr,g,Φ)}:xgd C B (some (.s (.v (.bool t)))) s true d o l fr g Φ e=xbr t (xws C B o (Zr fr s true) g (KPx C B l Φ (Zr fr s true) d) .mk) (xwo C B l (qM (Zr fr s false) d (some (.tup []))) g Φ .mk) .mk:=pe
theorem zmN{t:Bool}{s:Nat}{d:Option Nat}{o:EO}{l:List EG}{Φ:XFr→XH→Prop}{e:Dm (B,s,false,d,o,l,fr,g,Φ)}:xgd C B (some (.s (.v (.bool t)))) s false d o l fr g Φ e=xbr t (xwo C B l (qM (Zr fr s true) d (some (.tup []))) g Φ .mk) (xws C B o (Zr fr s false) g (KPx C B l Φ (Zr fr s false) d) .mk) .mk:=pe
theorem zrP{b:Bool}{s:Nat}{d:Option Nat}{o:EO}{l:List EG}{Φ:XFr→XH→Prop}{e:Dm (B,s,b,d,o,l,fr,g,Φ)}:xgd C B (some (.tup [])) s b d o l fr g Φ e=xwo C B l (qM fr d (some (.tup []))) g Φ .mk:=pe
theorem zrM{l:List EG}{Φ:XFr→XH→Prop}{d:Option Nat}{v:XF}:KPx C B l Φ fr d v g=xwo C B l (qM fr d (some v)) g Φ .mk:=pe
theorem zpp{t neq:Bool}{Ψ:XF→XH→Prop}{e:Dm (g,Ψ)}:xnq (some (some t)) neq g Ψ e=Ψ (.s (.v (.bool (if neq then !t else t)))) g:=pe
theorem zpo{neq:Bool}{Ψ:XF→XH→Prop}{e:Dm (g,Ψ)}:xnq (some none) neq g Ψ e=xan (Ψ (.s (.v (.bool true))) g) (Ψ (.s (.v (.bool false))) g) .mk:=pe
theorem zpn{v:XF}{Ψ:XF→XH→Prop}{e:Dm Ψ}:xmx (some (v,g)) Ψ e=Ψ v g:=pe
theorem zpm{Ψ:XF→XH→Prop}{e:Dm Ψ}:xmx none Ψ e=False:=pe
theorem zse{x0:OD}{Ψ:XF→XH→Prop}{e:Dm (B,((.mov x0):EO),fr,g,Ψ)}:xws C B (.mov x0) fr g Ψ e=xmx (opX fr g (.mov x0)) Ψ .mk:=pe
theorem zpI{x0:OD}{Ψ:XF→XH→Prop}{e:Dm (B,((.nilc x0):EO),fr,g,Ψ)}:xws C B (.nilc x0) fr g Ψ e=xmx (opX fr g (.nilc x0)) Ψ .mk:=pe
theorem zpJ{x0:OD}{Ψ:XF→XH→Prop}{e:Dm (B,((.nilf x0):EO),fr,g,Ψ)}:xws C B (.nilf x0) fr g Ψ e=xmx (opX fr g (.nilf x0)) Ψ .mk:=pe
theorem zpE{x0:Bool}{x1:Nat}{x2:OD}{Ψ:XF→XH→Prop}{e:Dm (B,((.load x0 x1 x2):EO),fr,g,Ψ)}:xws C B (.load x0 x1 x2) fr g Ψ e=xmx (opX fr g (.load x0 x1 x2)) Ψ .mk:=pe
theorem zmT{x0:Nat}{x1:OD}{x2:OD}{Ψ:XF→XH→Prop}{e:Dm (B,((.store x0 x1 x2):EO),fr,g,Ψ)}:xws C B (.store x0 x1 x2) fr g Ψ e=((∀i,wrX fr g (.store x0 x1 x2)=some i→B i)∧xmx (opX fr g (.store x0 x1 x2)) Ψ .mk):=pe
theorem zsf{x0:Nat}{x1:Nat}{x2:OD}{Ψ:XF→XH→Prop}{e:Dm (B,((.new x0 x1 x2):EO),fr,g,Ψ)}:xws C B (.new x0 x1 x2) fr g Ψ e=xmx (opX fr g (.new x0 x1 x2)) Ψ .mk:=pe
theorem zmR{x0:List SV}{x1:List (Nat×Nat×OD)}{Ψ:XF→XH→Prop}{e:Dm (B,((.build x0 x1):EO),fr,g,Ψ)}:xws C B (.build x0 x1) fr g Ψ e=xmx (opX fr g (.build x0 x1)) Ψ .mk:=pe
theorem zrY{x0:Nat}{x1:Nat}{x2:List SV}{x3:List (Nat×Nat×OD)}{Ψ:XF→XH→Prop}{e:Dm (B,((.bsl x0 x1 x2 x3):EO),fr,g,Ψ)}:xws C B (.bsl x0 x1 x2 x3) fr g Ψ e=xmx (opX fr g (.bsl x0 x1 x2 x3)) Ψ .mk:=pe
theorem zrX{x0:BinOp}{x1:OD}{x2:OD}{Ψ:XF→XH→Prop}{e:Dm (B,((.bin x0 x1 x2):EO),fr,g,Ψ)}:xws C B (.bin x0 x1 x2) fr g Ψ e=xmx (opX fr g (.bin x0 x1 x2)) Ψ .mk:=pe
theorem zr0{x0:Bool}{x1:OD}{x2:OD}{Ψ:XF→XH→Prop}{e:Dm (B,((.eqb x0 x1 x2):EO),fr,g,Ψ)}:xws C B (.eqb x0 x1 x2) fr g Ψ e=xmx (opX fr g (.eqb x0 x1 x2)) Ψ .mk:=pe
theorem zr2{x0:Bool}{x1:OD}{x2:OD}{Ψ:XF→XH→Prop}{e:Dm (B,((.eqp x0 x1 x2):EO),fr,g,Ψ)}:xws C B (.eqp x0 x1 x2) fr g Ψ e=xmx (opX fr g (.eqp x0 x1 x2)) Ψ .mk:=pe
theorem zr1{neq:Bool}{x:OD}{Ψ:XF→XH→Prop}{e:Dm (B,((.eqn neq x (.c (.s .nils))):EO),fr,g,Ψ)}:xws C B (.eqn neq x (.c (.s .nils))) fr g Ψ e=xnq ((odX fr x).bind (Jf g)) neq g Ψ .mk:=pe
theorem zr3{x0:Bool}{x1:List (Nat×Nat)}{x2:OD}{x3:OD}{Ψ:XF→XH→Prop}{e:Dm (B,((.eqs x0 x1 x2 x3):EO),fr,g,Ψ)}:xws C B (.eqs x0 x1 x2 x3) fr g Ψ e=xmx (opX fr g (.eqs x0 x1 x2 x3)) Ψ .mk:=pe
theorem zuA{x0:UnOp}{x1:OD}{Ψ:XF→XH→Prop}{e:Dm (B,((.un x0 x1):EO),fr,g,Ψ)}:xws C B (.un x0 x1) fr g Ψ e=xmx (opX fr g (.un x0 x1)) Ψ .mk:=pe
theorem zsk{x0:IntKind}{x1:OD}{Ψ:XF→XH→Prop}{e:Dm (B,((.toi x0 x1):EO),fr,g,Ψ)}:xws C B (.toi x0 x1) fr g Ψ e=xmx (opX fr g (.toi x0 x1)) Ψ .mk:=pe
theorem zpD{x0:FloatKind}{x1:OD}{Ψ:XF→XH→Prop}{e:Dm (B,((.itof x0 x1):EO),fr,g,Ψ)}:xws C B (.itof x0 x1) fr g Ψ e=xmx (opX fr g (.itof x0 x1)) Ψ .mk:=pe
theorem zpC{x0:IntKind}{x1:OD}{Ψ:XF→XH→Prop}{e:Dm (B,((.ftoi x0 x1):EO),fr,g,Ψ)}:xws C B (.ftoi x0 x1) fr g Ψ e=xmx (opX fr g (.ftoi x0 x1)) Ψ .mk:=pe
theorem zrW{x0:Nat}{x1:OD}{Ψ:XF→XH→Prop}{e:Dm (B,((.b2s x0 x1):EO),fr,g,Ψ)}:xws C B (.b2s x0 x1) fr g Ψ e=xmx (opX fr g (.b2s x0 x1)) Ψ .mk:=pe
theorem zsa{x0:Nat}{x1:List OD}{x2:List OD}{Ψ:XF→XH→Prop}{e:Dm (B,((.mkf x0 x1 x2):EO),fr,g,Ψ)}:xws C B (.mkf x0 x1 x2) fr g Ψ e=xmx (opX fr g (.mkf x0 x1 x2)) Ψ .mk:=pe
theorem zsb{x0:Nat}{x1:OD}{Ψ:XF→XH→Prop}{e:Dm (B,((.mki x0 x1):EO),fr,g,Ψ)}:xws C B (.mki x0 x1) fr g Ψ e=xmx (opX fr g (.mki x0 x1)) Ψ .mk:=pe
theorem zsd{x0:Nat}{x1:Nat}{x2:List SV}{x3:OD}{Ψ:XF→XH→Prop}{e:Dm (B,((.mks x0 x1 x2 x3):EO),fr,g,Ψ)}:xws C B (.mks x0 x1 x2 x3) fr g Ψ e=xmx (opX fr g (.mks x0 x1 x2 x3)) Ψ .mk:=pe
theorem zsj{x0:Nat}{x1:Nat}{x2:OD}{x3:Option OD}{x4:Option OD}{Ψ:XF→XH→Prop}{e:Dm (B,((.sli x0 x1 x2 x3 x4):EO),fr,g,Ψ)}:xws C B (.sli x0 x1 x2 x3 x4) fr g Ψ e=xmx (opX fr g (.sli x0 x1 x2 x3 x4)) Ψ .mk:=pe
theorem zpM{x0:OD}{Ψ:XF→XH→Prop}{e:Dm (B,((.sli0 x0):EO),fr,g,Ψ)}:xws C B (.sli0 x0) fr g Ψ e=xmx (opX fr g (.sli0 x0)) Ψ .mk:=pe
theorem zpN{x0:OD}{x1:Option OD}{x2:Option OD}{Ψ:XF→XH→Prop}{e:Dm (B,((.subs x0 x1 x2):EO),fr,g,Ψ)}:xws C B (.subs x0 x1 x2) fr g Ψ e=xmx (opX fr g (.subs x0 x1 x2)) Ψ .mk:=pe
theorem zr5{x0:Nat}{x1:OD}{Ψ:XF→XH→Prop}{e:Dm (B,((.fad x0 x1):EO),fr,g,Ψ)}:xws C B (.fad x0 x1) fr g Ψ e=xmx (opX fr g (.fad x0 x1)) Ψ .mk:=pe
theorem zr6{x0:Bool}{x1:Nat}{x2:Nat}{x3:OD}{Ψ:XF→XH→Prop}{e:Dm (B,((.fld x0 x1 x2 x3):EO),fr,g,Ψ)}:xws C B (.fld x0 x1 x2 x3) fr g Ψ e=xmx (opX fr g (.fld x0 x1 x2 x3)) Ψ .mk:=pe
theorem zr7{x0:Nat}{x1:Nat}{x2:OD}{x3:OD}{Ψ:XF→XH→Prop}{e:Dm (B,((.iad x0 x1 x2 x3):EO),fr,g,Ψ)}:xws C B (.iad x0 x1 x2 x3) fr g Ψ e=xmx (opX fr g (.iad x0 x1 x2 x3)) Ψ .mk:=pe
theorem zr8{x0:OD}{x1:OD}{Ψ:XF→XH→Prop}{e:Dm (B,((.idx x0 x1):EO),fr,g,Ψ)}:xws C B (.idx x0 x1) fr g Ψ e=xmx (opX fr g (.idx x0 x1)) Ψ .mk:=pe
theorem zr4{x0:OD}{x1:Nat}{Ψ:XF→XH→Prop}{e:Dm (B,((.ext x0 x1):EO),fr,g,Ψ)}:xws C B (.ext x0 x1) fr g Ψ e=xmx (opX fr g (.ext x0 x1)) Ψ .mk:=pe
theorem zr9{x0:OD}{Ψ:XF→XH→Prop}{e:Dm (B,((.len x0):EO),fr,g,Ψ)}:xws C B (.len x0) fr g Ψ e=xmx (opX fr g (.len x0)) Ψ .mk:=pe
theorem zpL{x0:OD}{Ψ:XF→XH→Prop}{e:Dm (B,((.slen x0):EO),fr,g,Ψ)}:xws C B (.slen x0) fr g Ψ e=xmx (opX fr g (.slen x0)) Ψ .mk:=pe
theorem zrV{x0:Nat}{x1:Nat}{x2:Nat}{x3:OD}{x4:OD}{Ψ:XF→XH→Prop}{e:Dm (B,((.app x0 x1 x2 x3 x4):EO),fr,g,Ψ)}:xws C B (.app x0 x1 x2 x3 x4) fr g Ψ e=((∀i,wrX fr g (.app x0 x1 x2 x3 x4)=some i→B i)∧xmx (opX fr g (.app x0 x1 x2 x3 x4)) Ψ .mk):=pe
theorem zpx{x0:Nat}{x1:Nat}{x2:OD}{x3:OD}{Ψ:XF→XH→Prop}{e:Dm (B,((.apps x0 x1 x2 x3):EO),fr,g,Ψ)}:xws C B (.apps x0 x1 x2 x3) fr g Ψ e=((∀i,wrX fr g (.apps x0 x1 x2 x3)=some i→B i)∧xmx (opX fr g (.apps x0 x1 x2 x3)) Ψ .mk):=pe
theorem zpy{x0:Nat}{x1:Nat}{x2:List SV}{x3:OD}{x4:OD}{Ψ:XF→XH→Prop}{e:Dm (B,((.appz x0 x1 x2 x3 x4):EO),fr,g,Ψ)}:xws C B (.appz x0 x1 x2 x3 x4) fr g Ψ e=xmx (opX fr g (.appz x0 x1 x2 x3 x4)) Ψ .mk:=pe
theorem zpA{x0:Nat}{x1:Nat}{x2:OD}{x3:OD}{Ψ:XF→XH→Prop}{e:Dm (B,((.copy x0 x1 x2 x3):EO),fr,g,Ψ)}:xws C B (.copy x0 x1 x2 x3) fr g Ψ e=((∀i,wrX fr g (.copy x0 x1 x2 x3)=some i→B i)∧xmx (opX fr g (.copy x0 x1 x2 x3)) Ψ .mk):=pe
theorem zrZ{x0:Nat}{x1:List SV}{x2:OD}{Ψ:XF→XH→Prop}{e:Dm (B,((.clr x0 x1 x2):EO),fr,g,Ψ)}:xws C B (.clr x0 x1 x2) fr g Ψ e=((∀i,wrX fr g (.clr x0 x1 x2)=some i→B i)∧xmx (opX fr g (.clr x0 x1 x2)) Ψ .mk):=pe
theorem zux{x0:OD}{x1:List OD}{Ψ:XF→XH→Prop}{e:Dm (B,((.mn x0 x1):EO),fr,g,Ψ)}:xws C B (.mn x0 x1) fr g Ψ e=xmx (opX fr g (.mn x0 x1)) Ψ .mk:=pe
theorem zuy{x0:OD}{x1:List OD}{Ψ:XF→XH→Prop}{e:Dm (B,((.mx x0 x1):EO),fr,g,Ψ)}:xws C B (.mx x0 x1) fr g Ψ e=xmx (opX fr g (.mx x0 x1)) Ψ .mk:=pe
theorem zuz{x0:OD}{Ψ:XF→XH→Prop}{e:Dm (B,((.re x0):EO),fr,g,Ψ)}:xws C B (.re x0) fr g Ψ e=xmx (opX fr g (.re x0)) Ψ .mk:=pe
theorem zuw{x0:OD}{Ψ:XF→XH→Prop}{e:Dm (B,((.im x0):EO),fr,g,Ψ)}:xws C B (.im x0) fr g Ψ e=xmx (opX fr g (.im x0)) Ψ .mk:=pe
theorem zpB{x0:OD}{x1:OD}{Ψ:XF→XH→Prop}{e:Dm (B,((.cplx x0 x1):EO),fr,g,Ψ)}:xws C B (.cplx x0 x1) fr g Ψ e=xmx (opX fr g (.cplx x0 x1)) Ψ .mk:=pe
theorem zsh{x0:OD}{Ψ:XF→XH→Prop}{e:Dm (B,((.rng x0):EO),fr,g,Ψ)}:xws C B (.rng x0) fr g Ψ e=xmx (opX fr g (.rng x0)) Ψ .mk:=pe
theorem zsg{x0:OD}{Ψ:XF→XH→Prop}{e:Dm (B,((.nxt x0):EO),fr,g,Ψ)}:xws C B (.nxt x0) fr g Ψ e=xmx (opX fr g (.nxt x0)) Ψ .mk:=pe
theorem zsc{Ψ:XF→XH→Prop}{e:Dm (B,(.mkm:EO),fr,g,Ψ)}:xws C B .mkm fr g Ψ e=xmx (opX fr g .mkm) Ψ .mk:=pe
theorem zpH{x0:Bool}{x1:OD}{x2:OD}{x3:OD}{Ψ:XF→XH→Prop}{e:Dm (B,((.mput x0 x1 x2 x3):EO),fr,g,Ψ)}:xws C B (.mput x0 x1 x2 x3) fr g Ψ e=xmx (opX fr g (.mput x0 x1 x2 x3)) Ψ .mk:=pe
theorem zpF{x0:Bool}{x1:Bool}{x2:SV}{x3:OD}{x4:OD}{Ψ:XF→XH→Prop}{e:Dm (B,((.mget x0 x1 x2 x3 x4):EO),fr,g,Ψ)}:xws C B (.mget x0 x1 x2 x3 x4) fr g Ψ e=xmx (opX fr g (.mget x0 x1 x2 x3 x4)) Ψ .mk:=pe
theorem zpG{x0:OD}{Ψ:XF→XH→Prop}{e:Dm (B,((.mlen x0):EO),fr,g,Ψ)}:xws C B (.mlen x0) fr g Ψ e=xmx (opX fr g (.mlen x0)) Ψ .mk:=pe
theorem zsi{x0:Nat}{x1:OD}{Ψ:XF→XH→Prop}{e:Dm (B,((.s2b x0 x1):EO),fr,g,Ψ)}:xws C B (.s2b x0 x1) fr g Ψ e=xmx (opX fr g (.s2b x0 x1)) Ψ .mk:=pe
theorem zpz{f:Nat}{l:List OD}{Ψ:XF→XH→Prop}{e:Dm (B,((.call f l):EO),fr,g,Ψ)}:xws C B (.call f l) fr g Ψ e=xca C B f (zdR fr l) g Ψ .mk:=pe
theorem zmS{x:OD}{l:List OD}{Ψ:XF→XH→Prop}{e:Dm (B,((.callv x l):EO),fr,g,Ψ)}:xws C B (.callv x l) fr g Ψ e=xcv C B (odX fr x) (zdR fr l) g Ψ .mk:=pe
theorem zpK{c a b:OD}{Ψ:XF→XH→Prop}{e:Dm (B,((.pick c a b):EO),fr,g,Ψ)}:xws C B (.pick c a b) fr g Ψ e=xpk (odA fr c) (odX fr a) (odX fr b) g Ψ .mk:=pe
theorem zup{f:Nat}{as:List XF}{Ψ:XF→XH→Prop}{e:Dm (B,g,Ψ)}:xca C B f (some as) g Ψ e=xCX C B f as g Ψ .mk:=pe
theorem zpk{f:Nat}{as:List XF}{Ψ:XF→XH→Prop}{e:Dm (B,g,Ψ)}:xcv C B (some (.s (.v (.fn f)))) (some as) g Ψ e=xCX C B f as g Ψ .mk:=pe
theorem zpj{i:Nat}{as:List XF}{Ψ:XF→XH→Prop}{e:Dm (B,g,Ψ)}:xcv C B (some (.s (.cl i))) (some as) g Ψ e=xcl C B g[i]? as g Ψ .mk:=pe
theorem zpi{f:Nat}{first as caps:List XF}{Ψ:XF→XH→Prop}{e:Dm (B,as,g,Ψ)}:xcl C B (some (.clo f first caps)) as g Ψ e=xCX C B f (first++as++caps) g Ψ .mk:=pe
theorem zur{t:Bool}{x y:XF}{Ψ:XF→XH→Prop}{e:Dm (g,Ψ)}:xpk (some (.bool t)) (some x) (some y) g Ψ e=xbr t (Ψ x g) (Ψ y g) .mk:=pe
end
section
variable {C:Nat→Option EF} {B D:Nat→Prop} {n0:Nat} {P:List Nat} {k:Nat} {os:List Nat} {d:Option Nat} {o:EO} {l:List EG} {fr:XFr} {g:XH} {Φ:XFr→XH→Prop}
theorem zrQ{e:Dm (B,D,n0,P,([]:List EG),Φ)}:xwd C B D n0 P k os [] fr g Φ e=Φ fr g:=pe
theorem zut{e:Dm (B,D,n0,P,(⟨d,o,none⟩::l:List EG),Φ)}:xwd C B D n0 P k os (⟨d,o,none⟩::l) fr g Φ e=xru C B D n0 P k os d o l fr g Φ .mk:=pe
theorem zus{e:Dm (B,D,n0,P,k,os,d,o,l,g,Φ)}:xru C B D n0 P k os d o l fr g Φ e=((P.contains k=true→isA o=true∧JL (zV o) os=true)∧(isL o=true→zl3 D os fr o)∧xws C (fun i=>B i∧(n0≤i∨D i)) o fr g (KQx C B D n0 P k os o l Φ fr d) .mk):=pe
theorem zrN{v:XF}:KQx C B D n0 P k os o l Φ fr d v g=xwd C B D n0 P (k+1) (nxO os d (zgu os o v)) l (qM fr d (some v)) g Φ .mk:=pe
end
section
variable {res:List ER} {Ψ:XF→XH→Prop} {fr:XFr} {g:XH}
theorem zpq{l:List XF}{e:Dm Ψ}:xrs (some l) Ψ g e=(l.all (fun x=>(fcX x).isSome)=true∧Ψ (zaW l) g):=pe
theorem zpg:KRx res Ψ .ret fr g=xrs (QX fr g res) Ψ g .mk:=propext zpV
theorem ziE:KRx res Ψ .normal fr g=xrs (QX fr g res) Ψ g .mk:=propext ziI
end
theorem zmL{A A2:Prop}{e:Dm (A∧A2)}(a:A)(b:A2):xan A A2 e:=⟨a,b⟩
attribute [simp ↓] x_wk x_Lp x_CX x_wd zj7 zrM zrN zpg ziE zsK zpY zpZ ziG zpR zmU zmV ziH zpU zmW zmX zsG
attribute [simp] zph zmM zrO zpw zmQ zrR zps zmP zrT zpr zuq zmO zpv zpt zrS zpu zrU zuu zuv zpl zmN zrP zpp zpo zpn zpm zse zpI zpJ zpE zmT zsf zmR zrY zrX zr0 zr2 zr1 zr3 zuA zsk zpD zpC zrW zsa zsb zsd zsj zpM zpN zr5 zr6 zr7 zr8 zr4 zr9 zpL zrV zpx zpy zpA zrZ zux zuy zuz zuw zpB zsh zsg zsc zpH zpF zpG zsi zpz zmS zpK zup zpk zpj zpi zur zrQ zut zus zpq
section
theorem ZK{g r:XH}{x:XO}:(g++x::r)[g.length]? =some x:=by rw[zuP (zuQ _),zvN];rfl
theorem zaJ{g r:XH}{k:Nat}:(g++r)[g.length+k]? =r[k]? :=by rw[zuP (by omega)];congr 1;omega
theorem zq{g r:XH}{i:Nat}(hi:i<g.length):(g++r)[i]? =g[i]? :=zuO hi
theorem zk9{g r:XH}{i:Nat}{x:XO}(hi:i<g.length):(g++r).set i x=g.set i x++r:=zxJ _ _ hi
theorem zgL{g r:XH}{x y:XO}:(g++x::r).set g.length y=g++y::r:=by rw[zvX _ _ (zuQ _),zvN];rfl
theorem zeb{g r:XH}{k:Nat}{y:XO}:(g++r).set (g.length+k) y=g++r.set k y:=by rw[zvX _ _ (by omega)];congr 2;omega
theorem zH{g:XH}{i j:Nat}{x:XO}(hne:i≠j):(g.set i x)[j]? =g[j]? :=zuU hne
theorem yn{g:XH}{i:Nat}{x:XO}(hi:i<g.length):(g.set i x)[i]? =some x:=zu2 hi
attribute [simp] ZK zaJ zq zk9 zgL zeb
section
variable {g:XH} {t z t' z' n i w o m y:Nat} {k:Int} {cs new:List XV} {x:XF}
theorem zl5:Jb g (.s (.v .nils))=some 0:=rfl
theorem zqK:Jb g (.s .nl)=some 0:=rfl
theorem znW:Jb g (.s (.lst t z n cs))=some n:=rfl
theorem zqL:Jb g (.s (.sl i w o n))=some n:=rfl
theorem zqD:jM g t z k (.s (.sl i w o n))=match zN g i w with
 |some (t',z',_)=>if t'=t∧z'=z then if 0≤k then if k<n then some (.ptr i w ((o+k.toNat)*z)) else none else none else none
 |none=>none:=rfl
theorem znK:jM g t z k (.s (.lst t' z' n cs))=if t'=t∧z'=z then if 0≤k then if k<n then some (.lp cs (k.toNat*z)) else none else none else none:=rfl
theorem zrh:rdX g (.s (.ptr i w o))=match zN g i w with
 |some (_,_,cs)=>some (cs,o)
 |none=>none:=rfl
theorem zt2:rdX g (.s (.lp cs o))=some (cs,o):=rfl
theorem zma:Jf g (.s (.v .nils))=some (some true):=rfl
theorem zof:Jf g (.s (.lst t z n cs))=if n=0 then some none else some (some false):=rfl
theorem zq4:Jf g (.s .nl)=some none:=rfl
theorem zkP:Jf g (.s (.sl i w o n))=match zN g i w with
 |some (_,_,cs)=>if cs.length=0 then some none else some (some false)
 |none=>none:=rfl
theorem znq:elX g t z (.s (.v .nils))=some (0,[]):=rfl
theorem zta:elX g t z (.s .nl)=some (0,[]):=rfl
theorem zqm:elX g t z (.s (.lst t' z' n cs))=if n=0 then some (0,[]) else if t'=t∧z'=z then some (n,cs) else none:=rfl
theorem ztb:elX g t z (.s (.sl i w o n))=match zN g i w with
 |some (t',z',cs)=>if t'=t∧z'=z then if(o+n)*z≤cs.length then some (n,zbh cs o n z) else none else none
 |none=>none:=rfl
theorem zm7{i w o m:Nat}:zci g t z y (.s (.sl i w o m)) 0 new=if YL g i w then some (.s (.sl i w o m),g) else none:=rfl
theorem zlt{n:Nat}(h:n≠0):zci g t z y (.s (.v .nils)) n new=if new.length=0 then none else if n*y≤140737488355328 then some (.s (.sl g.length 0 0 n),g++[.own 0 t z new]) else none:=by unfold zci;rw[zuV h]
theorem zp4{n:Nat}(h:n≠0):zci g t z y (.s .nl) n new=if new.length=0 then none else if n*y≤140737488355328 then some (.s (.sl g.length 0 0 n),g++[.own 0 t z new]) else none:=by unfold zci;rw[zuV h]
theorem zfI{n:Nat}(h:n≠0):zci g t z y (.s (.sl i w o m)) n new=if new.length=0 then none else match zN g i w with
 |some (t',z',cs)=>if t'=t∧z'=z∧(o+m)*z≤cs.length∧(m+n)*y≤140737488355328 then some (.s (.sl i (w+1) 0 (m+n)),g.set i (.own (w+1) t z (zbh cs o m z++new))) else none
 |none=>none:=by unfold zci;rw[zuV h];rfl
end
attribute [simp] isA isL JL zl3 Yy slX zgu znN nxO zl5 zqK znW zqL zqD znK zrh zt2 ldC zbh zma zof zq4 zkP znq zta zqm ztb zV odT zaT zh2 Qf
attribute [simp] zp9 znb zsT Zr isW opX odX odA zdR zmc Zu qM yM cX unV fcX zdi qB zN YL wrX zm7 zlt zp4 zfI zaM resX QX zaW setX
attribute [simp] lvF ZP lvV zr qm
attribute [-simp] List.length_flatMap getElem?_pos
end
section
variable {α:Type} {enc:α→List XV} {z:Nat}
theorem zf(he:∀a,(enc a).length=z):∀(l:List α),(l.flatMap enc).length=l.length*z
 |[]=>by simp
 |a::l=>by rw[zvS,zuR,he,zf he l,zvA,zwU];omega
theorem zdp(he:∀a,(enc a).length=z):∀(l:List α) (k:Nat) (hk:k<l.length),((l.flatMap enc).drop (k*z)).take z=enc l[k]
 |a::l,0,_=>by
  rw[zv4,zve,zvS];show List.take z (enc a++_)=enc a;rw[←he a,zwc];rfl
 |a::l,k+1,hk=>by rw[zvS,show(k+1)*z=(enc a).length+k*z by rw[he,zwU];omega,List.drop_append,zwP (by omega),zwo,zvJ];exact zdp he l k (by simpa using hk)
theorem atX(he:∀a,(enc a).length=z){l:List α}{k:Nat}(hk:k<l.length):k*z+z≤(l.flatMap enc).length∧((l.flatMap enc).drop (k*z)).take z=enc l[k]∧∀c,c<z→(l.flatMap enc)[k*z+c]? =(enc l[k])[c]? :=by have h0:(k+1)*z≤l.length*z:=zvu _ hk;rw[zwU] at h0;refine⟨by rw[zf he];exact h0,zdp he l k hk,fun c hc=> ?_⟩;rw[←zdp he l k hk,zvo,zuT hc,zvR]
theorem qf{m:Nat}:∀{a b:List XV},zr m (a++b)↔zr m a∧zr m b
 |[],b=>by simp[zr]
 |x::a,b=>by simp[zr,qf (a:=a),and_assoc]
theorem zQ{m:Nat}(h:∀a,zr m (enc a)):∀(l:List α),zr m (l.flatMap enc)
 |[]=>by simp[zr]
 |a::l=>by rw[zvS,qf];exact⟨h a,zQ h l⟩
end
theorem RFr.lt{R:XE}:∀{a:XFr} {b:Fr},RFr R a b→qm R.g.length a
 |[],[],_=>by simp[qm]
 |(n,some v)::r,(n',some v')::s,h=>by
  simp only[RFr] at h;simp only[qm];exact⟨RF.lt _ _ h.2.1,RFr.lt h.2.2⟩
 |(n,none)::r,(n',none)::s,h=>by
  simp only[RFr] at h;simp only[qm];exact RFr.lt h.2
 |[],_::_,h=>by simp[RFr] at h
 |(_,some _)::_,[],h=>by simp[RFr] at h
 |(_,none)::_,[],h=>by simp[RFr] at h
 |(_,some _)::_,(_,none)::_,h=>by simp[RFr] at h
 |(_,none)::_,(_,some _)::_,h=>by simp[RFr] at h
theorem Lp.inv'{C:Nat→Option EF}{B:Nat→Prop}{keep:List Nat}{b:EC}{Φ:Ex→XFr→XH→Prop}(hk:keep.Nodup)(I:Nat→XFr→XH→Prop)(hs:∀n fr g,I n fr g→qm g.length fr→fr.map (·.1)=keep∧wk C B b fr g (KLx (fun fr' g'=>∃m,m<n∧Cut g fr' g' (I m)) keep Φ)):∀n fr g,I n fr g→Lp C B keep b fr g Φ:=by
 intro n fr g hI R fr1 hg H h;refine Lp.inv hk (fun n fr g=>I n fr g∧qm g.length fr) (fun n fr g hI=> ?_) n fr g ⟨hI,hg▸h.lt⟩ R fr1 hg H h;obtain⟨h1,h2⟩:=hs n fr g hI.1 hI.2;refine⟨h1,?_⟩;have:∀(fr':XFr) (g':XH),(∃m,m<n∧Cut g fr' g' (I m))→∃m,m<n∧Cut g fr' g' fun fr g=>I m fr g∧qm g.length fr:=by rintro fr' g' ⟨m,hm,g2,J,c1,c2,c3,c4,c5⟩;exact⟨m,hm,g2,J,c1,c2,c3,c4,c5,c3⟩
 exact ZB h2 fun x fr' g' h=>by
  cases x with
  |normal=>exact this _ _ h
  |exit id=>exact h
  |goto l=>exact h
  |ret=>exact h
structure Nxt(g:XH)(F:XFr)(G:XH)(fr:XFr)(g':XH):Prop where
 fr:fr=F
 heap:∃J,g'=G++J
 le:g.length≤G.length
 lt:qm G.length F
 old:Old G.length g G
theorem Nxt.cut{g:XH}{F:XFr}{G:XH}{fr:XFr}{g':XH}(n:Nxt g F G fr g'){P:XFr→XH→Prop}(h:P F G):Cut g fr g' P:=by obtain⟨rfl,⟨J,rfl⟩,h1,h2,h3⟩:=n;exact⟨G,J,rfl,h1,h2,h3,h⟩
theorem Nxt.app{g:XH}{F fr:XFr}{J:XH}(h:fr=F)(hl:qm g.length F):Nxt g F g fr (g++J):=⟨h,⟨J,rfl⟩,zuQ _,hl,Old.refl _ _⟩
theorem Nxt.self{g:XH}{F fr:XFr}(h:fr=F)(hl:qm g.length F):Nxt g F g fr g:=⟨h,⟨[],by simp⟩,zuQ _,hl,Old.refl _ _⟩
theorem Jg{g:XH}{F fr:XFr}{J:XH}{N:XFr→XH→Prop}(hN:∀fr g',Nxt g F g fr g'→N fr g')(h:fr=F)(hl:qm g.length F):N fr (g++J):=hN _ _ (.app h hl)
theorem Lp.fold{α σ:Type}{C:Nat→Option EF}{B:Nat→Prop}{keep:List Nat}{b:EC}{Φ:Ex→XFr→XH→Prop}(l:List α)(F:Nat→σ→XFr)(G:Nat→σ→XH)(step:σ→α→σ)(s0:σ)(hk:keep.Nodup)(hF:∀k s,(F k s).map (·.1)=keep)
 (body:∀k (hk:k<l.length) (s:σ),s=(l.take k).foldl step s0→qm (G k s).length (F k s)→∀N:XFr→XH→Prop,(∀fr g',Nxt (G k s) (F (k+1) (step s l[k])) (G (k+1) (step s l[k])) fr g'→N fr g')→wk C B b (F k s) (G k s) (KLx N keep Φ))
 (fin:∀s,s=l.foldl step s0→wk C B b (F l.length s) (G l.length s) (KLx (fun _ _=>False) keep Φ)):
 Lp C B keep b (F 0 s0) (G 0 s0) Φ:=by
 refine Lp.inv' hk (fun n fr g=>∃k s,n=l.length-k∧k≤l.length∧s=(l.take k).foldl step s0∧fr=F k s∧g=G k s) ?_ l.length _ _ ⟨0,s0,rfl,zws _,rfl,rfl,rfl⟩;rintro n fr g ⟨k,s,rfl,hkl,hs,rfl,rfl⟩ hlt;refine⟨hF k s,?_⟩;by_cases h:k<l.length
 ·refine body k h s hs hlt _ fun fr g' hn=>⟨l.length-(k+1),by omega,hn.cut ⟨k+1,_,rfl,h,?_,rfl,rfl⟩⟩
  rw[hs,zu3 h,List.foldl_append];rfl
 ·obtain rfl:k=l.length:=by omega
  rw[zvd] at hs;exact ZB (fin s hs) fun x fr' g' h=>by
   cases x with
   |normal=>exact h.elim
   |exit id=>exact h
   |goto l=>exact h
   |ret=>exact h
theorem Old.loc{m:Nat}{g L L':XH}(h:∀o∈L',lvO m o):Old m (g++L) (g++L'):=fun i o hi e=>by
 by_cases hl:i<g.length
 ·rw[zuO hl] at e⊢;exact .inl e
 ·rw[zuP (by omega)] at e;exact .inr (h o (zvy e))
theorem zcH{g L L' g':XH}{F fr:XFr}{N:XFr→XH→Prop}(hN:∀fr g',Nxt (g++L) F (g++L') fr g'→N fr g')(J:XH)(e:g'=g++(L'++J))(h:fr=F)(hl:qm (g++L').length F)(hlen:L.length≤L'.length)(ho:∀o∈L',lvO (g++L').length o):N fr g':=
 hN _ _ ⟨h,⟨J,by rw[e,zu9]⟩,by simp[hlen],hl,.loc ho⟩
theorem Lp.gen{σ:Type}{C:Nat→Option EF}{B:Nat→Prop}{keep:List Nat}{b:EC}{Φ:Ex→XFr→XH→Prop}(n:Nat)(F:Nat→σ→XFr)(G:Nat→σ→XH)(P:Nat→σ→Prop)(s0:σ)(hk:keep.Nodup)(hF:∀k s,(F k s).map (·.1)=keep)(p0:P 0 s0)
 (body:∀k (hk:k<n) (s:σ),P k s→qm (G k s).length (F k s)→∀N:XFr→XH→Prop,(∀s' fr g',P (k+1) s'→Nxt (G k s) (F (k+1) s') (G (k+1) s') fr g'→N fr g')→wk C B b (F k s) (G k s) (KLx N keep Φ))
 (fin:∀s,P n s→wk C B b (F n s) (G n s) (KLx (fun _ _=>False) keep Φ)):
 Lp C B keep b (F 0 s0) (G 0 s0) Φ:=by
 refine Lp.inv' hk (fun m fr g=>∃k s,m=n-k∧k≤n∧P k s∧fr=F k s∧g=G k s) ?_ n _ _ ⟨0,s0,rfl,zws _,p0,rfl,rfl⟩;rintro m fr g ⟨k,s,rfl,hkl,hs,rfl,rfl⟩ hlt;refine⟨hF k s,?_⟩;by_cases h:k<n
 ·exact body k h s hs hlt _ fun s' fr g' hp hn=>⟨n-(k+1),by omega,hn.cut ⟨k+1,s',rfl,h,hp,rfl,rfl⟩⟩
 ·obtain rfl:k=n:=by omega
  exact ZB (fin s hs) fun x fr' g' h=>by
   cases x with
   |normal=>exact h.elim
   |exit id=>exact h
   |goto l=>exact h
   |ret=>exact h
theorem Qb{σ:Type}{g:XH}{F:σ→XFr}{fr:XFr}{J:XH}{P:σ→Prop}{N:XFr→XH→Prop}(s:σ)(hN:∀s' fr g',P s'→Nxt g (F s') g fr g'→N fr g')(hp:P s)(h:fr=F s)(hl:qm g.length (F s)):N fr (g++J):=hN s _ _ hp (.app h hl)
theorem qG{σ:Type}{g:XH}{F:σ→XFr}{fr:XFr}{P:σ→Prop}{N:XFr→XH→Prop}(s:σ)(hN:∀s' fr g',P s'→Nxt g (F s') g fr g'→N fr g')(hp:P s)(h:fr=F s)(hl:qm g.length (F s)):N fr g:=hN s _ _ hp (.self h hl)
theorem FzF.lt{n0:Nat}{J:XH}:∀{a:XF},lvF n0 a→FzF n0 J [] [] a a:=by
 intro a;refine XF.rec (motive_1:=fun x=>lvF n0 x→FzF n0 J [] [] x x) (motive_2:=fun l=>ZP n0 l→FzF n0 J [] [] (.tup l) (.tup l)) ?_ ?_ ?_ ?_ ?_ a
 ·intro v h;simp only[lvF] at h;exact .s (.lt h)
 ·intro l h;simp only[lvF] at h;exact .agg (.lts h)
 ·intro l ih h;simp only[lvF] at h;exact ih h
 ·intro _;exact .nil
 ·intro x l h1 h2 h;simp only[ZP] at h;exact .cons (h1 h.1) (h2 h.2)
theorem q6{Ψ:XF→XH→Prop}{u r:XF}{g:XH}(h:Ψ r g)(e:u=r):Ψ u g:=e▸h
theorem Pure.intro0{C:Nat→Option EF}{f:Nat}{e:EF}(hf:C f=some e){args:List XF}(hl:args.length≤e.slots){r:XF}(hr:∀m,lvF m r)(w:∀(g:XH) (Ψ:XF→XH→Prop),Ψ r g→(∀J,Ψ r (g++J))→wk C (fun i=>g.length≤i∨False) e.body (zaM 0 args) g (KRx e.res Ψ)):Pure C f args r:=
 Pure.intro hf hl fun g Ψ hJ h0=>w g Ψ (h0 r (.lt (hr _))) fun J=>hJ J r (.lt (hr _))
def GhF(m:Nat):XFr→XFr→Prop
 |[],[]=>True
 |(n,some a)::r,(n',some b)::s=>n=n'∧(a=b∨(a= .s (.v .nils)∧b= .s (.sl m 0 0 0)))∧GhF m r s
 |(n,none)::r,(n',none)::s=>n=n'∧GhF m r s
 |_,_=>False
theorem RFr.ghost{R R2:XE}{m:Nat}(h1:∀a b,lvF m a→RF R a b→RF R2 a b)(h2:∀b,RF R (.s (.v .nils)) b→RF R2 (.s (.sl m 0 0 0)) b)(hm:m=R.g.length):∀{a a2:XFr} {b:Fr},GhF m a a2→RFr R a b→RFr R2 a2 b
 |[],[],[],_,_=>by simp[RFr]
 |(n,some x)::r,(n2,some y)::s,(n3,some v)::u,k,h=>by
  simp only[GhF] at k;simp only[RFr] at h⊢;obtain⟨k1,k2,k3⟩:=k;refine⟨by rw[←k1];exact h.1,?_,RFr.ghost h1 h2 hm k3 h.2.2⟩;rcases k2 with rfl|⟨rfl,rfl⟩
  ·exact h1 _ _ (hm▸RF.lt _ _ h.2.1) h.2.1
  ·exact h2 _ h.2.1
 |(n,none)::r,(n2,none)::s,(n3,none)::u,k,h=>by
  simp only[GhF] at k;simp only[RFr] at h⊢;exact⟨by rw[←k.1];exact h.1,RFr.ghost h1 h2 hm k.2 h.2⟩
 |[],_::_,_,k,_=>by simp[GhF] at k
 |(_,some _)::_,[],_,k,_=>by simp[GhF] at k
 |(_,none)::_,[],_,k,_=>by simp[GhF] at k
 |(_,some _)::_,(_,none)::_,_,k,_=>by simp[GhF] at k
 |(_,none)::_,(_,some _)::_,_,k,_=>by simp[GhF] at k
 |[],[],_::_,_,h=>by simp[RFr] at h
 |(_,some _)::_,(_,some _)::_,[],_,h=>by simp[RFr] at h
 |(_,some _)::_,(_,some _)::_,(_,none)::_,_,h=>by simp[RFr] at h
 |(_,none)::_,(_,none)::_,[],_,h=>by simp[RFr] at h
 |(_,none)::_,(_,none)::_,(_,some _)::_,_,h=>by simp[RFr] at h
theorem Lp.ghost{C:Nat→Option EF}{B:Nat→Prop}{keep:List Nat}{b:EC}{Φ:Ex→XFr→XH→Prop}(t z:Nat){fr fr2:XFr}{g:XH}(hf:GhF g.length fr fr2)(w:Lp C B keep b fr2 (g++[.own 0 t z []]) Φ):Lp C B keep b fr g Φ:=by
 rintro R fr1 rfl H h;have hz:FzH B R.g.length [] [none] [.own 0 t z []] R.g R.g R.g:=by
  refine⟨rfl,rfl,fun i o e=> .inl ⟨e,.inl e⟩,rfl,fun j j' k e e'=> ?_,fun j o e=> ?_⟩
  ·have h1:=(zuN.1 e).1;obtain rfl:j=0:=by simpa using h1
   simp at e
  ·have h1:=(zuN.1 e).1;obtain rfl:j=0:=by simpa using h1
   simp only[zvC,zuI] at e;exact .inl ⟨rfl,t,z,e.symm⟩
 obtain⟨a1,a2,a3⟩:=zbj H H (Ex2.refl B R) (J:=[]) (by simp) hz;have:=w (R.done R.g.length R.g [none] [.own 0 t z []]) fr1 rfl a2 (h.ghost (fun a b hl r=>RF.done a3 a b hl r) (fun b r=>by
  have:FzF R.g.length [] [none] [.own 0 t z []] (.s (.v .nils)) (.s (.sl (R.g.length+0) 0 0 0)):= .s (.gh (j:=0) (t:=t) (z:=z) rfl rfl);exact this.sound a3 b r) rfl hf)
 exact this.mono fun _ _ _=>Pk.trans a1
def KSx(l:Nat)(P:XFr→XH→Prop)(Φ:Ex→XFr→XH→Prop):Ex→XFr→XH→Prop:=fun x fr g=>match x with
 | .goto l'=>l'=l∧P fr g
 |x=>Φ x fr g
theorem zmZ{l l':Nat}{P:XFr→XH→Prop}{Φ:Ex→XFr→XH→Prop}{fr:XFr}{g:XH}:KSx l P Φ (.goto l') fr g=(l'=l∧P fr g):=pe
theorem zpX{l:Nat}{P:XFr→XH→Prop}{Φ:Ex→XFr→XH→Prop}{fr:XFr}{g:XH}:KSx l P Φ .ret fr g=Φ .ret fr g:=pe
theorem ziJ{l:Nat}{P:XFr→XH→Prop}{Φ:Ex→XFr→XH→Prop}{fr:XFr}{g:XH}:KSx l P Φ .normal fr g=Φ .normal fr g:=pe
theorem zmY{l id:Nat}{P:XFr→XH→Prop}{Φ:Ex→XFr→XH→Prop}{fr:XFr}{g:XH}:KSx l P Φ (.exit id) fr g=Φ (.exit id) fr g:=pe
attribute [simp ↓] zmZ zpX ziJ zmY
theorem Sc.rule{C:Nat→Option EF}{B:Nat→Prop}{a r:EC}{l:Nat}{fr:XFr}{g:XH}{Φ:Ex→XFr→XH→Prop}(ha:Yr a l=false)(I:Nat→XFr→XH→Prop)(n:Nat)(F:XFr)(G:XH)(h0:wk C B a fr g (fun x fr g=>x= .normal∧fr=F∧g=G))(hI:I n F G)
 (hs:∀n fr g,I n fr g→qm g.length fr→∀P:XFr→XH→Prop,(∀m fr' g',m<n→Cut g fr' g' (I m)→P fr' g')→wk C B r fr g (KSx l P Φ)):Ck C B (.scope (.seq a (.seq (.label l) r))) fr g Φ:=by
 rintro R fr1 rfl H h;have hl:Yr (.seq a (.seq (.label l) r)) l=true:=by simp[Yr]
 have step:∀(n:Nat) (R':XE) (f:XFr) (fr1:Fr),HR R'→Ex2 B R R'→RFr R' f fr1→I n f R'.g→WPk C r fr1 R'.h (KS (.seq a (.seq (.label l) r)) (fun l' fr1 h1=>∃m,m<n∧(l'=l∧∃R' fr,R'.h=h1∧HR R'∧Ex2 B R R'∧RFr R' fr fr1∧I m fr R'.g)) (Pk B R Φ)):=by
  intro n R' f fr1 a2 a3 a4 a5;refine(YA (hs n f R'.g a5 a4.lt (fun fr' g'=>∃m,m<n∧Cut R'.g fr' g' (I m)) fun m fr' g' hm hc=>⟨m,hm,hc⟩) R' fr1 rfl a2 a4).mono ?_;rintro x fr' h' ⟨R2,f2,rfl,b2,b3,b4,b5⟩;cases x with
  |goto l'=>
   obtain⟨rfl,m,hm,c⟩:=b5;obtain⟨R3,c1,c2,c3,c4,c5⟩:=Cut.sim a2 b2 b3 b4 c;rw[zfy,hl,zuT rfl];exact⟨m,hm,rfl,R3,f2,c1,c2,a3.trans c3,c4,c5⟩
  |exit id=>exact⟨R2,f2,rfl,b2,a3.trans b3,b4,b5⟩
  |normal=>exact⟨R2,f2,rfl,b2,a3.trans b3,b4,b5⟩
  |ret=>exact⟨R2,f2,rfl,b2,a3.trans b3,b4,b5⟩
 refine zmK (fun m l' fr1 h1=>l'=l∧∃R' fr,R'.h=h1∧HR R'∧Ex2 B R R'∧RFr R' fr fr1∧I m fr R'.g) n ?_ ?_
 ·refine wp_seq ((YA h0 R fr1 rfl H h).mono ?_);rintro x fr' h' ⟨R',f,rfl,a2,a3,a4,rfl,rfl,a5⟩;refine wp_seq (zbR.2 ?_);exact step n R' f fr' a2 a3 a4 (a5▸hI)
 ·rintro n l' fr1 h1 ⟨rfl,R',f,rfl,a2,a3,a4,a5⟩;refine(zo8 ha).2 ((zo7 (by simp[Yr])).2 (zmJ.2 ?_));exact step n R' f fr1 a2 a3 a4 a5
theorem zb.go0{C:Nat→Option EF}{B:Nat→Prop}{f:Nat}{args:List XF}{g:XH}{r:XF}{Ψ:XF→XH→Prop}(w:Cl C (fun _=>False) f args g fun u g'=>u=r∧g'=g)(h:Ψ r g):zb C B f args g Ψ:=
 zb.go w (fun _ _ h=>h.elim) (by rintro u g' ⟨rfl,rfl⟩;exact h)
def ZL{α:Type}(lt:α→α→Bool)(b:α):List α→List α
 |[]=>[b]
 |x::r=>if lt b x then b::x::r else x::ZL lt b r
def zu{α:Type}(lt:α→α→Bool):List α→List α
 |[]=>[]
 |x::r=>ZL lt x (zu lt r)
def jF{α:Type}(lt:α→α→Bool):List α→Bool
 |[]=>true
 |x::r=>(r.all fun y=>lt x y||lt y x)&&jF lt r
theorem zhs{α:Type}(lt:α→α→Bool)(b:α):∀(l:List α),(ZL lt b l).length=l.length+1
 |[]=>rfl
 |x::r=>by unfold ZL;split<;>simp[zhs lt b r]
theorem zJ{α:Type}(lt:α→α→Bool):∀(l:List α),(zu lt l).length=l.length
 |[]=>rfl
 |x::r=>by unfold zu;rw[zhs,zJ lt r];rfl
def YS(z:Nat):Nat→List SV→List (List SV)
 |0,_=>[]
 |n+1,cs=>cs.take z::YS z n (cs.drop z)
def ltK:List Nat→List SV→List SV→Bool
 |[],_,_=>false
 |k::r,a,b=>match a[k]?,b[k]? with
  |some (.int _ x),some (.int _ y)=>decide (x<y)||(x==y&&ltK r a b)
  |some (.str x),some (.str y)=>Op.bytesLess x.toList y.toList||(x.toList==y.toList&&ltK r a b)
  |_,_=>false
def okT:List Bool→List SV→Bool
 |[],[]=>true
 |true::r,.int .i64 _::l=>okT r l
 |false::r,.str _::l=>okT r l
 |_,_=>false
def zb2(t z cf:Nat)(lt:List SV→List SV→Bool)(okr:List SV→Bool):List FV→LH→Option (List FV×LH)
 |[.s v,.s (.fn f)],h=>if f=cf then match v with
  | .nils=>some ([],h)
  | .sl0 _ _ _=>some ([],h)
  | .sl i _ o n=>if n=0 then some ([],h) else match h[i]? with
    |some (.own t' vs)=>if t'=t∧(o+n)*z≤vs.length∧n<4611686018427387904 then
      if((YS z n (vs.drop (o*z))).all okr&&jF lt (YS z n (vs.drop (o*z))))=true then some ([],h.set i (.own t (qn vs (o*z) (zu lt (YS z n (vs.drop (o*z)))).flatten))) else none
     else none
    |_=>none
  |_=>none
  else none
 |_,_=>none
def JC(t z cf:Nat)(lt:List SV→List SV→Bool)(okr:List SV→Bool):EF:=⟨2,.ext 2 0 (zb2 t z cf lt okr),(List.range 0).map fun i=> .tmp (2+i)⟩
theorem zlN{C:Nat→Option EF}{f k:Nat}{g:List FV→LH→Option (List FV×LH)}(hf:C f=some ⟨k,.ext k 0 g,(List.range 0).map fun i=> .tmp (k+i)⟩){args:List FV}{h h':LH}(hl:args.length=k)(hg:g args h=some ([],h'))(hle:h.length≤h'.length):zv C f args h=some (.tup [],h'):=by
 refine JN hf (by simp[hl]) ?_;unfold zg7;have h1:JM (jf 0 args) 0 k=some args:=by rw[←hl];exact zew args 0
 simp only[zB,zlM,h1,zwv,hg,zwb,if_true,hle];rfl
section
variable {α:Type} {enc:α→List SV} {z:Nat}
theorem zfk(he:∀a,(enc a).length=z):∀(l:List α) (r:List SV),YS z l.length (l.flatMap enc++r)=l.map enc
 |[],r=>rfl
 |a::l,r=>by rw[zvS,zu9,zvA,YS,zwc (he a),List.drop_left' (he a),zfk he l r,zu7]
theorem zkB{lt:List SV→List SV→Bool}{lta:α→α→Bool}(hl:∀a b,lt (enc a) (enc b)=lta a b)(a:α):∀(l:List α),ZL lt (enc a) (l.map enc)=(ZL lta a l).map enc
 |[]=>rfl
 |x::l=>by simp only[zu7,ZL,hl,zkB hl a l];split<;>simp
theorem zec{lt:List SV→List SV→Bool}{lta:α→α→Bool}(hl:∀a b,lt (enc a) (enc b)=lta a b):∀(l:List α),zu lt (l.map enc)=(zu lta l).map enc
 |[]=>rfl
 |x::l=>by simp only[zu7,zu,zec hl l,zkB hl]
theorem zdb{lt:List SV→List SV→Bool}{lta:α→α→Bool}(hl:∀a b,lt (enc a) (enc b)=lta a b):∀(l:List α),jF lt (l.map enc)=jF lta l
 |[]=>rfl
 |x::l=>by simp only[zu7,jF,zdb hl l,List.all_map];congr 2;funext y;simp[hl]
end
theorem RVs.unv{R:XE}:∀{l m:List SV},RVs R (l.map .v) m→m=l
 |[],[],_=>rfl
 |a::l,b::m,h=>by
  simp only[zu7,RVs,RV] at h;rw[h.1.1,RVs.unv h.2]
 |[],_::_,h=>by simp[RVs] at h
 |_::_,[],h=>by simp[RVs] at h
theorem za6{C:Nat→Option EF}{f t z cf:Nat}{lt:List SV→List SV→Bool}{okr:List SV→Bool}(hf:C f=some (JC t z cf lt okr)){α:Type}{enc:α→List SV}(he:∀a,(enc a).length=z)(hz:z≠0)(hn:∀a,∀v∈enc a,nlS v=true)(hok:∀a,okr (enc a)=true){lta:α→α→Bool}(hlt:∀a b,lt (enc a) (enc b)=lta a b)
 {g:XH} {k w o:Nat} {cs:List XV} {l:List α} (hk:g[k]? =some (.own w t z cs)) (hcs:(o+l.length)*z≤cs.length) (hcut:(cs.drop (o*z)).take (l.length*z)=(l.flatMap enc).map .v) (hd:jF lta l=true) (hlm:l.length<4611686018427387904):
 Cl C (fun x=>x=k) f [.s (.sl k w o l.length),.s (.v (.fn cf))] g fun u g'=>u= .tup []∧g'=g.set k (.own w t z (setX cs (o*z) (((zu lta l).flatMap enc).map .v))):=by
 rintro R args1 rfl H ra;have hc:zN R.g k w=some (t,z,cs):=by simp[zN,hk]
 obtain⟨a1,a2,rfl,h1,h2⟩:∃a1 a2,args1=[.s a1,.s a2]∧RV R (.sl k w o l.length) a1∧RV R (.v (.fn cf)) a2:=by
  match args1,ra with
  |[.s a1,.s a2],h=>simp only[RFs,RF] at h;exact⟨a1,a2,rfl,h.1,h.2.1⟩
  |[],h=>simp[RFs] at h
  |[_],h=>simp[RFs] at h
  |_::_::_::_,h=>simp[RFs] at h
  | .agg _::_,h=>simp[RFs,RF] at h
  | .tup _::_,h=>simp[RFs,RF] at h
  | .s _:: .agg _::_,h=>simp[RFs,RF] at h
  | .s _:: .tup _::_,h=>simp[RFs,RF] at h
 simp only[RV] at h2;obtain⟨rfl,_⟩:=h2;have fin:∀(R':XE),HR R'→Ex2 (fun x=>x=k) R R'→R'.g=R.g.set k (.own w t z (setX cs (o*z) (((zu lta l).flatMap enc).map .v)))→zb2 t z cf lt okr [.s a1,.s (.fn cf)] R.h=some ([],R'.h)→R.h.length≤R'.h.length→WPc C f [.s a1,.s (.fn cf)] R.h (fun u1 h1=>∃R' u,R'.h=h1∧HR R'∧Ex2 (fun x=>x=k) R R'∧RF R' u u1∧(u= .tup []∧R'.g=R.g.set k (.own w t z (setX cs (o*z) (((zu lta l).flatMap enc).map .v))))):=fun R' q1 q2 q3 q4 q5=>
  ⟨.tup [],R'.h,zlN hf rfl q4 q5,R',.tup [],rfl,q1,q2,by simp[RF,RFs],rfl,q3⟩
 by_cases h0:l=[]
 ·subst h0;have e:R.g.set k (.own w t z (setX cs (o*z) (((zu lta []).flatMap enc).map .v)))=R.g:=by
   obtain⟨hl,e⟩:=zuN.1 hk;simp only[zu,zwR,zwn,setX];rw[←e];exact zxb hl
  refine fin R H (Ex2.refl _ _) e.symm ?_ (zuQ _);rcases h1.sl hc with⟨_,_,_,rfl|⟨i,p,o',rfl⟩⟩|⟨_,p,rfl⟩
  ·simp[zb2]
  ·simp[zb2]
  ·simp[zb2]
 ·have hlp:0<l.length:=List.length_pos_iff.2 h0;have hne:cs≠[]:=by
   rintro rfl;have:0<(o+l.length)*z:=Nat.mul_pos (by omega) (zxx hz);simp at hcs;omega
  obtain⟨vs,k1,k2,_⟩:=H.own hc (zgM hc hne);have hlv:=k2.len;have hv:(vs.drop (o*z)).take (l.length*z)=l.flatMap enc:=RVs.unv (R:=R) (by rw[←hcut];exact(k2.drop _).take _);have hrow:YS z l.length (vs.drop (o*z))=l.map enc:=by rw[←zvn (l.length*z) (vs.drop (o*z)),hv];exact zfk he l _
  have hnl:∀v∈(zu lta l).flatMap enc,nlS v=true:=fun v hv=>by obtain⟨a,_,ha⟩:=zvr.1 hv;exact hn a v ha
  obtain⟨vs2,s1,s2,s3⟩:=zcK (B:=fun x=>x=k) (o:=o*z) H hc (by simpa using hne) rfl (RVs.v hnl);obtain rfl:vs=vs2:=by rw[k1] at s1;cases s1;rfl
  obtain⟨R',v',t1,t2,t3,t4,t5⟩:=s3 (.tup []) (.tup []) (by simp[RF,RFs]);simp only[zuI,zuL] at t1;refine fin R' t3 t4 t2 ?_ (by rw[←t1.2];simp);rcases h1.sl hc with⟨e,_⟩|⟨_,p,rfl⟩
  ·exact absurd e hne
  ·have b1:((l.map enc).all okr&&jF lt (l.map enc))=true:=by
    rw[zdb hlt,hd,zxf,zva];intro r hr;obtain⟨a,_,rfl⟩:=zvZ.1 hr;exact hok a
   have e2:(zu lt (l.map enc)).flatten=(zu lta l).flatMap enc:=by rw[zec hlt,List.flatMap]
   simp only[zb2,if_true,k1,hrow];rw[zuV (by omega),zuT ⟨trivial,by omega,hlm⟩,zuT b1,e2,t1.2]
theorem JJ{C:Nat→Option EF}:∀{l m:List EG} {fr:Fr} {h:LH} {tr:List (Option TE)} {Φ:List (Option TE)→Fr→LH→Prop},WT C l fr h tr (fun tr fr h=>WT C m fr h tr Φ)→WT C (l++m) fr h tr Φ
 |[],_,_,_,_,_,w=>w
 |x::l,m,fr,h,tr,Φ,w=>by
  rw[zv9];rw[Qm] at w⊢;split at w
  ·rename_i hw;unfold mt at w⊢;split at w
   ·rename_i v h' e
    try simp only[e]
    rw[zcN] at w⊢;exact JJ w
   ·exact w.elim
  ·exact JJ w
  ·exact w.elim
theorem JK{C:Nat→Option EF}:∀{l:List EG} {fr:Fr} {h:LH} {tr:List (Option TE)} {Φ:List (Option TE)→Fr→LH→Prop},WT C l fr h tr Φ→WT C l fr h tr (fun tr' fr h=>(∃ext,tr'=tr++ext)∧Φ tr' fr h)
 |[],_,_,tr,_,w=>⟨⟨[],by simp⟩,w⟩
 |x::l,fr,h,tr,Φ,w=>by
  rw[Qm] at w⊢;split at w
  ·rename_i hw;unfold mt at w⊢;split at w
   ·rename_i v h' e
    try simp only[e]
    rw[zcN] at w⊢;refine yV (JK w) ?_;rintro t f h2 ⟨⟨ext,rfl⟩,h3⟩;exact⟨⟨_,zu9 _ _ _⟩,h3⟩
   ·exact w.elim
  ·refine yV (JK w) ?_;rintro t f h2 ⟨⟨ext,rfl⟩,h3⟩;exact⟨⟨_,zu9 _ _ _⟩,h3⟩
  ·exact w.elim
theorem zy{C:Nat→Option EF}{B:Nat→Prop}(n:Nat)(os:List Nat)(D:Nat→Prop){l:List EG}{ps:List (Nat×Nat)}{keep:List Nat}{fr:XFr}{g:XH}{Φ:Ex→XFr→XH→Prop}(hn:n≤l.length)(hp:(ps.all fun p=>decide (p.1<n)&&decide (p.2<n))=true)(w:wd C B D g.length (ps.map (·.1)) 0 os (l.take n) fr g (fun fr' g'=>wd C B (fun _=>True) g.length [] n [] (l.drop n) fr' g' (KOx keep Φ))):Ck C B (.draw l ps keep) fr g Φ:=by
 rintro R fr1 rfl H h;refine qZ ?_;have hl:l=l.take n++l.drop n:=(zvn n l).symm;rw[hl];refine JJ (yV (Ze (D:=D) H H (Ex2.refl _ _) h (h.olds _) rfl (fun i t e=>by simp at e) w) ?_);rintro tr' fr2 h2 ⟨h3,h4,R',f,rfl,a2,a3,a4,a5⟩;have ht:TrI C (fun _=>True) R [] tr':=fun i t e=>by obtain⟨q1,q2,_⟩:=h3 i t e;exact⟨⟨q1.1,fun j hj hd=>q1.2 j hj fun i _ hs=>hd i trivial hs⟩,⟨q2.1,fun j hj hd=>q2.2 j hj fun i _ hs=>hd i trivial hs⟩,fun e=>by simp at e⟩
 rw[zu6,zvD hn,zwb,zvv] at h4;refine yV (JK (Ze (D:=fun _=>True) (P:=[]) (os:=[]) H a2 (a3.wide fun i _ hb=>⟨hb,.inr trivial⟩) a4 (fun n hn=>by simp at hn) (by omega) ht a5)) ?_;rintro tr2 fr3 h5 ⟨⟨ext,rfl⟩,h6,h7,R2,f2,rfl,b2,b3,b4,b5⟩;refine⟨?_,R2,yM keep f2,rfl,b2,b3,b4.keep keep,b5⟩;have hx:∀{ps:List (Nat×Nat)},(ps.all fun p=>decide (p.1<tr'.length)&&decide (p.2<tr'.length))=true→yd (zv C) tr' ps→yd (zv C) (tr'++ext) ps:=by
  intro ps
  induction ps with
  |nil=>exact fun _ _=>trivial
  |cons p ps ih=>
   intro h k;simp only[zwk,zuS,zuZ] at h;obtain⟨⟨e1,e2⟩,e3⟩:=h;refine⟨?_,ih e3 k.2⟩;have:=k.1;unfold j9 at this⊢;rw[zuO e1,zuO e2];exact this
 refine hx ?_ (Zb h3 ?_)
 ·rw[zva] at hp⊢;intro p hpm;have:=hp p hpm;simp only[zuS,zuZ] at this⊢;omega
 ·rw[zva] at hp⊢;intro p hpm;have:=hp p hpm;simp only[zuS,zuZ] at this⊢;refine⟨⟨?_,by omega⟩,by omega⟩;simpa using⟨p.2,hpm⟩
theorem zdc{C:Nat→Option EF}{B:Nat→Prop}(m n:Nat)(os:List Nat)(D:Nat→Prop){l:List EG}{ps:List (Nat×Nat)}{keep:List Nat}{fr:XFr}{g:XH}{Φ:Ex→XFr→XH→Prop}(hm:m≤n)(hn:n≤l.length)(hp:(ps.all fun p=>decide (p.1<m)&&decide (p.2<n))=true)(w:wd C (fun i=>B i∧(g.length≤i∨D i)) D g.length (ps.map (·.1)) 0 os (l.take m) fr g (fun fr' g'=>wd C (fun i=>B i∧(g.length≤i∨D i)) D g.length [] m [] ((l.take n).drop m) fr' g' (fun fr' g'=>wd C B (fun _=>True) g.length [] n [] (l.drop n) fr' g' (KOx keep Φ)))):Ck C B (.draw l ps keep) fr g Φ:=by
 rintro R fr1 rfl H h;refine qZ ?_;have hl:l=l.take m++((l.take n).drop m++l.drop n):=by
  have:(l.take n).take m=l.take m:=by rw[zwN,zvD hm]
  rw[←zu9,←this,zvn,zvn]
 rw[hl];refine JJ (yV (Ze (D:=D) H H (Ex2.refl _ _) h (h.olds _) rfl (fun i t e=>by simp at e) w) ?_);rintro tr' fr2 h2 ⟨h3,h4,R',f,rfl,a2,a3,a4,a5⟩;rw[zu6,zvD (by omega),zwb,zvv] at h4;have ht0:TrI C D R [] tr':=fun i t e=>by obtain⟨q1,q2,_⟩:=h3 i t e;exact⟨q1,q2,fun e=>by simp at e⟩
 refine JJ (yV (JK (Ze (D:=D) (P:=[]) (os:=[]) H a2 (a3.wide fun i _ hb=>⟨hb,hb.2⟩) a4 (fun n hn=>by simp at hn) h4 ht0 a5)) ?_);rintro tr2 fr3 h5 ⟨⟨ext,rfl⟩,h6,h7,R2,f2,rfl,b2,b3,b4,b5⟩;rw[zvY,zu6,zvD hn] at h7;have ht:TrI C D R (ps.map (·.1)) (tr'++ext):=fun i t e=>by
  by_cases hi:i<tr'.length
  ·rw[zuO hi] at e;exact h3 i t e
  ·obtain⟨q1,q2,_⟩:=h6 i t e;refine⟨q1,q2,fun hc=> ?_⟩;exfalso;rw[zww,zvZ] at hc;obtain⟨p,hpm,e2⟩:=hc;have:=zva.1 hp p hpm;simp only[zuS,zuZ] at this;omega
 have ht2:TrI C (fun _=>True) R [] (tr'++ext):=fun i t e=>by obtain⟨q1,q2,_⟩:=h6 i t e;exact⟨⟨q1.1,fun j hj hd=>q1.2 j hj fun i _ hs=>hd i trivial hs⟩,⟨q2.1,fun j hj hd=>q2.2 j hj fun i _ hs=>hd i trivial hs⟩,fun e=>by simp at e⟩
 refine yV (JK (Ze (D:=fun _=>True) (P:=[]) (os:=[]) H b2 (b3.wide fun i _ hb=>⟨hb.1,.inr trivial⟩) b4 (fun n hn=>by simp at hn) (by omega) ht2 b5)) ?_;rintro tr3 fr4 h8 ⟨⟨ext2,rfl⟩,_,_,R3,f3,rfl,c2,c3,c4,c5⟩;refine⟨?_,R3,yM keep f3,rfl,c2,c3,c4.keep keep,c5⟩;generalize tr'++ext=tr1 at *;have hx:∀{ps:List (Nat×Nat)},(ps.all fun p=>decide (p.1<tr1.length)&&decide (p.2<tr1.length))=true→yd (zv C) tr1 ps→yd (zv C) (tr1++ext2) ps:=by
  intro ps
  induction ps with
  |nil=>exact fun _ _=>trivial
  |cons p ps ih=>
   intro h k;simp only[zwk,zuS,zuZ] at h;obtain⟨⟨e1,e2⟩,e3⟩:=h;refine⟨?_,ih e3 k.2⟩;have:=k.1;unfold j9 at this⊢;rw[zuO e1,zuO e2];exact this
 refine hx ?_ (Zb ht ?_)
 ·rw[zva] at hp⊢;intro p hpm;have:=hp p hpm;simp only[zuS,zuZ] at this⊢;omega
 ·rw[zva] at hp⊢;intro p hpm;have:=hp p hpm;simp only[zuS,zuZ] at this⊢;refine⟨⟨?_,by omega⟩,by omega⟩;simpa using⟨p.2,hpm⟩
theorem ziK{C:Nat→Option EF}:∀{l:List EG} {fr:Fr} {h:LH} {t0 tr:List (Option TE)} {Φ:List (Option TE)→Fr→LH→Prop},WT C l fr h tr Φ→WT C l fr h (t0++tr) (fun tr' fr h=>∃t2,tr'=t0++t2∧Φ t2 fr h)
 |[],fr,h,t0,tr,Φ,w=>⟨tr,rfl,w⟩
 |x::l,fr,h,t0,tr,Φ,w=>by
  rw[Qm] at w⊢;split at w
  ·rename_i hw;unfold mt at w⊢;split at w
   ·rename_i v h' e
    try simp only[e]
    rw[zcN] at w⊢;rw[zu9];exact ziK w
   ·exact w.elim
  ·rw[zu9];exact ziK w
  ·exact w.elim
theorem Qd{C:Nat→Option EF}{tr ext:List (Option TE)}:∀{ps:List (Nat×Nat)},(ps.all fun p=>decide (p.1<tr.length)&&decide (p.2<tr.length))=true→yd (zv C) tr ps→yd (zv C) (tr++ext) ps
 |[],_,_=>trivial
 |p::ps,h,k=>by simp only[zwk,zuS,zuZ] at h;obtain⟨⟨e1,e2⟩,e3⟩:=h;refine⟨?_,Qd e3 k.2⟩;have:=k.1;unfold j9 at this⊢;rw[zuO e1,zuO e2];exact this
theorem zb9{C:Nat→Option EF}{tr:List (Option TE)}:∀{ps:List (Nat×Nat)},yd (zv C) tr ps↔∀p∈ps,j9 (zv C) tr p
 |[]=>by simp[yd]
 |p::ps=>by simp[yd,zb9 (ps:=ps)]
theorem zpf{C:Nat→Option EF}{B:Nat→Prop}(m n:Nat)(os:List Nat)(D:Nat→Prop){l:List EG}{ps:List (Nat×Nat)}{fr:XFr}{Φ:XFr→XH→Prop}{R:XE}{fr1:Fr}(H:HR R)(h:RFr R fr fr1)(hm:m≤n)(hn:n≤l.length)(hp:(ps.all fun p=>decide (p.1<m)&&decide (p.2<n))=true)(w:wd C (fun i=>B i∧(R.g.length≤i∨D i)) D R.g.length (ps.map (·.1)) 0 os (l.take m) fr R.g (fun fr' g'=>wd C (fun i=>B i∧(R.g.length≤i∨D i)) D R.g.length [] m [] ((l.take n).drop m) fr' g' (fun fr' g'=>wd C B (fun _=>True) R.g.length [] n [] (l.drop n) fr' g' Φ))):
 WT C l fr1 R.h [] (fun tr' fr3 h5=>yd (zv C) tr' ps∧tr'.length=l.length∧∃R2 f2,R2.h=h5∧HR R2∧Ex2 B R R2∧RFr R2 f2 fr3∧Φ f2 R2.g):=by
 have hl:l=l.take m++((l.take n).drop m++l.drop n):=by
  have:(l.take n).take m=l.take m:=by rw[zwN,zvD hm]
  rw[←zu9,←this,zvn,zvn]
 have hll:l.length=n+(l.drop n).length:=by rw[zvY];omega
 rw[hll]
 conv=>arg 2;rw[hl]
 refine JJ (yV (Ze (D:=D) H H (Ex2.refl _ _) h (h.olds _) rfl (fun i t e=>by simp at e) w) ?_);rintro tr' fr2 h2 ⟨h3,h4,R',f,rfl,a2,a3,a4,a5⟩;rw[zu6,zvD (by omega),zwb,zvv] at h4;have ht0:TrI C D R [] tr':=fun i t e=>by obtain⟨q1,q2,_⟩:=h3 i t e;exact⟨q1,q2,fun e=>by simp at e⟩
 refine JJ (yV (JK (Ze (D:=D) (P:=[]) (os:=[]) H a2 (a3.wide fun i _ hb=>⟨hb,hb.2⟩) a4 (fun n hn=>by simp at hn) h4 ht0 a5)) ?_);rintro tr2 fr3 h5 ⟨⟨ext,rfl⟩,h6,h7,R2,f2,rfl,b2,b3,b4,b5⟩;rw[zvY,zu6,zvD hn] at h7;have ht:TrI C D R (ps.map (·.1)) (tr'++ext):=fun i t e=>by
  by_cases hi:i<tr'.length
  ·rw[zuO hi] at e;exact h3 i t e
  ·obtain⟨q1,q2,_⟩:=h6 i t e;refine⟨q1,q2,fun hc=> ?_⟩;exfalso;rw[zww,zvZ] at hc;obtain⟨p,hpm,e2⟩:=hc;have:=zva.1 hp p hpm;simp only[zuS,zuZ] at this;omega
 have ht2:TrI C (fun _=>True) R [] (tr'++ext):=fun i t e=>by obtain⟨q1,q2,_⟩:=h6 i t e;exact⟨⟨q1.1,fun j hj hd=>q1.2 j hj fun i _ hs=>hd i trivial hs⟩,⟨q2.1,fun j hj hd=>q2.2 j hj fun i _ hs=>hd i trivial hs⟩,fun e=>by simp at e⟩
 refine yV (JK (Ze (D:=fun _=>True) (P:=[]) (os:=[]) H b2 (b3.wide fun i _ hb=>⟨hb.1,.inr trivial⟩) b4 (fun n hn=>by simp at hn) (by omega) ht2 b5)) ?_;rintro tr3 fr4 h8 ⟨⟨ext2,rfl⟩,_,h9,R3,f3,rfl,c2,c3,c4,c5⟩;refine⟨?_,by omega,R3,f3,rfl,c2,c3,c4,c5⟩;generalize tr'++ext=tr1 at *;refine Qd ?_ (Zb ht ?_)
 ·rw[zva] at hp⊢;intro p hpm;have:=hp p hpm;simp only[zuS,zuZ] at this⊢;omega
 ·rw[zva] at hp⊢;intro p hpm;have:=hp p hpm;simp only[zuS,zuZ] at this⊢;refine⟨⟨?_,by omega⟩,by omega⟩;simpa using⟨p.2,hpm⟩
theorem zfC{C:Nat→Option EF}:∀{l1 l2:List EG} {fr:Fr} {h:LH} {tr:List (Option TE)} {Φ1 Φ2:List (Option TE)→Fr→LH→Prop},WT C l1 fr h tr Φ1→WT C (l1++l2) fr h tr Φ2→WT C (l1++l2) fr h tr (fun tr' fr h=>(∃t1 e fr1 h1,tr'=t1++e∧Φ1 t1 fr1 h1)∧Φ2 tr' fr h)
 |[],l2,fr,h,tr,Φ1,Φ2,w1,w2=>by
  rw[zoX] at w1;rw[zwo] at w2⊢;refine yV (JK w2) ?_;rintro t f h2 ⟨⟨ext,rfl⟩,h3⟩;exact⟨⟨tr,ext,fr,h,rfl,w1⟩,h3⟩
 |x::l,l2,fr,h,tr,Φ1,Φ2,w1,w2=>by
  rw[zv9] at w2⊢;rw[Qm] at w1 w2⊢;cases hw:jo fr x.guard with
  |none=>rw[hw] at w1;exact w1.elim
  |some b=>
   cases b with
   |true=>
    rw[hw] at w1 w2;simp only at w1 w2⊢;unfold mt at w1 w2⊢;split at w1
    ·rename_i v h' e;simp only[e] at w2⊢;rw[zcN] at w1 w2⊢;exact zfC w1 w2
    ·exact w1.elim
   |false=>
    rw[hw] at w1 w2;exact zfC w1 w2
theorem zi1{C:Nat→Option EF}{B:Nat→Prop}(b:Nat)(ps1:List (Nat×Nat))(os1:List Nat)(a m n:Nat)(os:List Nat)(ps2:List (Nat×Nat))(os2:List Nat)(D2:Nat→Prop){l:List EG}{ps:List (Nat×Nat)}{keep:List Nat}{fr:XFr}{g:XH}{Φ:Ex→XFr→XH→Prop}(hb:b≤l.length)(ha:a≤l.length)(hm:m≤n)(hn:n≤(l.drop a).length)(hp:(ps.all fun p=>ps1.contains p||(decide (a≤p.1)&&decide (a≤p.2)&&ps2.contains (p.1-a,p.2-a)))=true)(hp1:(ps1.all fun p=>decide (p.1<b)&&decide (p.2<b))=true)(hp2:(ps2.all fun p=>decide (p.1<m)&&decide (p.2<n))=true)
 (w1:wd C B (fun _=>False) g.length (ps1.map (·.1)) 0 os1 (l.take b) fr g (fun _ _=>True))
 (w:wd C B (fun _=>False) g.length [] 0 os (l.take a) fr g (fun fr' g'=>wd C (fun i=>B i∧(g'.length≤i∨D2 i)) D2 g'.length (ps2.map (·.1)) 0 os2 ((l.drop a).take m) fr' g' (fun fr'' g''=>wd C (fun i=>B i∧(g'.length≤i∨D2 i)) D2 g'.length [] m [] (((l.drop a).take n).drop m) fr'' g'' (fun fr'' g''=>wd C B (fun _=>True) g'.length [] n [] ((l.drop a).drop n) fr'' g'' (KOx keep Φ))))):Ck C B (.draw l ps keep) fr g Φ:=by
 rintro R fr1 rfl H h;refine qZ ?_;have hA:=Ze (D:=fun _=>False) (tr:=[]) (k:=0) H H (Ex2.refl _ _) h (h.olds os1) rfl (fun i t e=>by simp at e) w1;have hB:WT C (l.take a++l.drop a) fr1 R.h [] (fun tr' fr3 h5=>(∃t1 t2,tr'=t1++t2∧t1.length=a∧yd (zv C) t2 ps2∧t2.length=(l.drop a).length)∧∃R2 f2,R2.h=h5∧HR R2∧Ex2 B R R2∧RFr R2 f2 fr3∧KOx keep Φ f2 R2.g):=by refine JJ (yV (Ze (D:=fun _=>False) H H (Ex2.refl _ _) h (h.olds os) rfl (fun i t e=>by simp at e) w) ?_);rintro tr' fr2 h2 ⟨h3,h4,R',f,rfl,a2,a3,a4,a5⟩;rw[zu6,zvD ha,zwb,zvv] at h4;have w2:=ziK (t0:=tr') (zpf m n os2 D2 a2 a4 hm hn hp2 a5);rw[zvl] at w2;refine yV w2 ?_;rintro tr3 fr4 h8 ⟨t2,rfl,k1,k2,R3,f3,rfl,c2,c3,c4,c5⟩;exact⟨⟨tr',t2,rfl,h4,k1,k2⟩,R3,f3,rfl,c2,a3.trans c3,c4,c5⟩
 have e1:l=l.take b++l.drop b:=(zvn b l).symm;have e2:l.take a++l.drop a=l:=zvn a l;rw[e2,e1] at hB;have hC:=zfC hA hB;rw[←e1] at hC;refine yV hC ?_;rintro tr fr3 h5 ⟨⟨t1,e,fr4,h6,he,q1,q2,_⟩,⟨u1,u2,hu,u3,u4,u5⟩,R2,f2,rfl,c2,c3,c4,c5⟩;rw[zu6,zvD hb,zvv] at q2;refine⟨?_,R2,yM keep f2,rfl,c2,c3,c4.keep keep,c5⟩;have k1:yd (zv C) t1 ps1:=Zb q1 (by
  rw[zva] at hp1⊢;intro p hpm;have:=hp1 p hpm;simp only[zuS,zuZ] at this⊢;refine⟨⟨?_,by omega⟩,by omega⟩;rw[zww];exact zvZ.2 ⟨p,hpm,rfl⟩)
 have k2:yd (zv C) (t1++e) ps1:=Qd (by
  rw[zva] at hp1⊢;intro p hpm;have:=hp1 p hpm;simp only[zuS,zuZ] at this⊢;omega) k1
 rw[←he] at k2;rw[zb9] at k2 u4⊢;intro p hpm;have hq:=zva.1 hp p hpm;simp only[zvT,zuS,zuZ,zww] at hq;rcases hq with hq|⟨⟨v1,v2⟩,v3⟩
 ·exact k2 p hq
 ·have:=u4 _ v3;unfold j9 at this⊢;rw[hu,zuP (by omega),zuP (by omega),u3];exact this
theorem zqs{C:Nat→Option EF}{f:Nat}{F:List FV→LH→Option (List FV×LH)}(hf:C f=some ⟨1,.ext 1 1 F,(List.range 1).map fun i=> .tmp (1+i)⟩){vs:List SV}{k:Int}(hF:∀h,F [.agg vs] h=some ([.s (.int .i64 k)],h)){g:XH}:Cl C (fun _=>False) f [.agg (vs.map .v)] g fun u g'=>u= .s (.v (.int .i64 k))∧g'=g:=by
 rintro R args1 rfl H ra;obtain⟨l,rfl,h1⟩:∃l,args1=[.agg l]∧RVs R (vs.map .v) l:=by
  match args1,ra with
  |[.agg l],h=>simp only[RFs,RF] at h;exact⟨l,rfl,h.1⟩
  |[],h=>simp[RFs] at h
  |[.s _],h=>simp[RFs,RF] at h
  |[.tup _],h=>simp[RFs,RF] at h
  |_::_::_,h=>simp[RFs] at h
 obtain rfl:l=vs:=RVs.unv h1;exact⟨.s (.int .i64 k),R.h,ZC hf rfl (hF _) (zuQ _) rfl,R,.s (.v (.int .i64 k)),rfl,H,Ex2.refl _ _,by simp[RF,RV,nlS],rfl,rfl⟩
def plF:FV→Bool
 | .s v=>nlS v
 | .agg l=>l.all nlS
 | .tup _=>false
def xfv:FV→XF
 | .s v=> .s (.v v)
 | .agg l=> .agg (l.map .v)
 | .tup _=> .tup []
theorem RFs.unx{R:XE}:∀{l m:List FV},(l.all plF)=true→RFs R (l.map xfv) m→m=l
 |[],[],_,_=>rfl
 | .s a::l,.s b::m,hp,h=>by
   simp only[zu7,xfv,RFs,RF,RV] at h;simp only[zwk,zuS] at hp;rw[h.1.1,RFs.unx hp.2 h.2]
 | .agg a::l,.agg b::m,hp,h=>by
   simp only[zu7,xfv,RFs,RF] at h;simp only[zwk,zuS] at hp;rw[RVs.unv h.1,RFs.unx hp.2 h.2]
 | .tup a::l,_::m,hp,h=>by simp[plF] at hp
 | .tup a::l,[],hp,h=>by simp[plF] at hp
 | .s a::l,.agg b::m,hp,h=>by simp[xfv,RFs,RF] at h
 | .s a::l,.tup b::m,hp,h=>by simp[xfv,RFs,RF] at h
 | .agg a::l,.s b::m,hp,h=>by simp[xfv,RFs,RF] at h
 | .agg a::l,.tup b::m,hp,h=>by simp[xfv,RFs,RF] at h
 | .s a::l,[],hp,h=>by simp[xfv,RFs] at h
 | .agg a::l,[],hp,h=>by simp[xfv,RFs] at h
 |[],_::_,_,h=>by simp[RFs] at h
theorem RF.xfv{R:XE}:∀{v:FV},plF v=true→RF R (xfv v) v
 | .s a,h=>by simp only[Ev.xfv,RF,RV];exact⟨trivial,h⟩
 | .agg l,h=>by simp only[Ev.xfv,RF];exact RVs.v fun a ha=>zva.1 h a ha
 | .tup _,h=>by simp[plF] at h
def XE.wide(R:XE)(h:LH):XE:=⟨R.φ,R.g,h,R.z,R.e⟩
theorem zmI{B:Nat→Prop}{R:XE}(H:HR R){h:LH}(hg:Gr R.h h):Ex2 B R (R.wide h)∧HR (R.wide h):=by
 have hs:∀i,sol (R.wide h) i↔sol R i:=fun i=>Iff.rfl;have X:∀B,Ex2 B R (R.wide h):=fun B=>⟨zuQ _,hg.le,fun i hi k w e=>⟨w,e,zuQ _,fun _=>⟨rfl,Iff.rfl⟩⟩,fun j hj _=>hg.same j hj,fun _ h=>h,fun i h=> .inl ⟨h,rfl⟩,fun _ _ _=>rfl⟩
 refine⟨X B,fun i o ho=> ?_,fun i j hi hj e=>H.inj i j hi hj e,fun j hj=>zvF (H.fz j hj) hg.le⟩;exact RO.mono H (X fun _=>False) (i:=i) (o:=o) ho Iff.rfl (fun hs=>hg.same _ (H.not_z hs).2) (fun _=>rfl) (fun _ h=>h) (H.ob i o ho)
theorem Cl.of1{C:Nat→Option EF}{f:Nat}{args:List FV}{v:FV}(hp:args.all plF=true)(hv:plF v=true)(w:∀h,WPc C f args h fun u h'=>Gr h h'∧u=v)(g:XH):Cl C (fun _=>False) f (args.map xfv) g fun u g'=>u=xfv v∧g'=g:=by rintro R args1 rfl H ra;obtain rfl:=RFs.unx hp ra;obtain⟨u,h',he,hg,rfl⟩:=w R.h;obtain⟨a1,a2⟩:=zmI (B:=fun _=>False) H hg;exact⟨u,h',he,R.wide h',Ev.xfv u,rfl,a2,a1,RF.xfv hv,rfl,rfl⟩
theorem Lp.invH{C:Nat→Option EF}{B:Nat→Prop}{keep:List Nat}{b:EC}{Φ:Ex→XFr→XH→Prop}(hk:keep.Nodup)(I:Nat→XFr→XH→Prop)(hs:∀n fr g,I n fr g→qm g.length fr→fr.map (·.1)=keep∧wk C B b fr g (KLx (fun fr' g'=>∃m,m<n∧I m fr' g') keep Φ)):∀n fr g,I n fr g→Lp C B keep b fr g Φ:=by
 intro n fr g hI R fr1 hg H h;refine WPl.inv (fun k fr1 h1=>∃R' fr,R'.h=h1∧HR R'∧Ex2 B R R'∧RFr R' fr fr1∧I k fr R'.g) ?_ n fr1 R.h ⟨R,fr,rfl,H,Ex2.refl _ _,h,hg▸hI⟩;rintro k fr2 h2 ⟨R',f,rfl,a2,a3,a4,a5⟩;obtain⟨k1,k2⟩:=hs k f R'.g a5 a4.lt;refine⟨?_,?_⟩
 ·have e:=a4.slots;rw[k1] at e;rw[e];exact zae (e▸hk)
 ·refine(YA k2 R' fr2 rfl a2 a4).mono ?_;rintro x fr' h' ⟨R2,f2,rfl,b2,b3,b4,b5⟩;cases x with
  |normal=>
   obtain⟨m,hm,c⟩:=b5;exact⟨m,hm,R2,_,rfl,b2,a3.trans b3,b4.keep keep,c⟩
  |exit id=>exact⟨R2,f2,rfl,b2,a3.trans b3,b4,b5⟩
  |goto l=>exact⟨R2,f2,rfl,b2,a3.trans b3,b4,b5⟩
  |ret=>exact⟨R2,f2,rfl,b2,a3.trans b3,b4,b5⟩
end Go.Proofs.YtdmcfjkgopmlgaaGreatDoor.Ev

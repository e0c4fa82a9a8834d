import Derived.Test.YtdmcfjkgopmlgaaGreatDoorR3
set_option linter.unusedVariables false
set_option linter.unusedSimpArgs false
set_option linter.unusedSectionVars false
namespace Go.Proofs.YtdmcfjkgopmlgaaGreatDoor.Ev
open Go
def isL:EO→Bool
 | .mov _| .nilc _| .fad _ _| .iaa _ _ _ _| .fld _ _ _ _| .ext _ _| .load _ _ _| .iad _ _ _ _| .sli _ _ _ _ _=>true
 |_=>false
set_option maxRecDepth 4000 in
set_option maxHeartbeats 4000000 in
theorem zkO{R:XE}(H:HR R){a:XFr}{b:Fr}(h:RFr R a b){o:EO}(hp:isL o=true){v:XF}{g:XH}(e:opX a R.g o=some (v,g)):g=R.g∧∃v',opE b R.h o=some (v',R.h)∧RF R v v':=by
 cases o with
 |load agg n x=>exact zdI H h e
 |mov x=>
  simp only[opX] at e;obtain⟨u,h1,h2⟩:=map_some e;obtain⟨rfl,rfl⟩:=by simpa using h2
  obtain⟨u',h3,h4⟩:=h.od h1;simp only[opE,h3,zvb];exact⟨by trivial,_,rfl,h4⟩
 |nilc x=>
  simp only[opX] at e;split at e
  ·rename_i i w o e1;split at e
   ·rename_i hl;simp only[zuE,zuH] at e;obtain⟨rfl,rfl⟩:=e;obtain⟨t,z,cs,hc⟩:=jG hl;obtain⟨v',_,h2,h3⟩:=h.odv e1;have:=h3.ptr hc;subst this;simp only[opE,h2];exact⟨by trivial,_,rfl,(by simp only[RF];exact h3)⟩
   ·cases e
  ·rename_i cs o e1;simp only[zuE,zuH] at e;obtain⟨rfl,rfl⟩:=e;obtain⟨v',_,h2,h3⟩:=h.odv e1;have h4:=h3;simp only[RV] at h3;obtain⟨j,q,t,vs,rfl,_⟩:=h3;simp only[opE,h2];exact⟨by trivial,_,rfl,(by simp only[RF];exact h4)⟩
  ·cases e
 |sli t z x lo hi=>
  simp only[opX] at e;split at e
  ·rename_i e1;split at e
   ·rename_i e2 e3;simp only[zuE,zuH] at e;obtain⟨rfl,rfl⟩:=e;obtain⟨v1,_,h1,h2⟩:=h.odv e1;simp only[RV] at h2;obtain⟨rfl,_⟩:=h2;simp only[opE,h1,h.bound e2,h.bound e3];exact⟨by trivial,_,rfl,RF.sc rfl⟩
   ·cases e
  ·rename_i i w o n e1;split at e
   ·rename_i l u t' z' cs e2 e3 hc;split at e
    ·rename_i ht;subst ht;split at e
     ·rename_i hlu;split at e
      ·rename_i hun;split at e
       ·cases e
       ·rename_i hw;simp only[zuE,zuH] at e;obtain⟨rfl,rfl⟩:=e;obtain⟨v1,_,h1,h2⟩:=h.odv e1;rcases h2.sl hc with⟨rfl,_⟩|⟨h3,p,rfl⟩
        ·exact absurd rfl hw
        ·obtain⟨vs,h5,h6,_⟩:=H.own hc h3;have h7:cellsOf R.h (R.φ i)=some (t',vs):=by rw[zV,h5];rfl
         simp only[opE,h1,h.bound e2,h.bound e3,h7,if_true];rw[zuO hlu,zuO hun];refine⟨by trivial,_,rfl,?_⟩;simp only[RF];simp only[RV] at h2⊢;exact⟨h2.1,h2.2.1,rfl,fun _=> .inr ⟨h3,_,rfl⟩⟩
      ·cases e
     ·cases e
    ·cases e
   ·cases e
  ·rename_i t' z' n cs e1;split at e
   ·rename_i l u e2 e3;split at e
    ·cases e
    ·rename_i hn;split at e
     ·rename_i ht;obtain⟨rfl,rfl⟩:=ht;split at e
      ·rename_i hlu;split at e
       ·rename_i hun;simp only[zuE,zuH] at e;obtain⟨rfl,rfl⟩:=e;obtain⟨v1,_,h1,h2⟩:=h.odv e1;simp only[RV] at h2;rcases h2 with⟨h3,_⟩|⟨j,p,o,vs,rfl,h4,h5,h6,h7,h8⟩
        ·exact absurd h3 hn
        ·simp only[opE,h1,h.bound e2,h.bound e3,h5,if_true];rw[zuO hlu,zuO hun];refine⟨by trivial,_,rfl,?_⟩;simp only[RF,RV];have q1:(o+l+(u-l))*z'≤(o+n)*z':=zvf _ (by omega);have q2:(l+(u-l))*z'≤n*z':=zvf _ (by omega);rw[zvv] at q2;have q3:(o+l)*z'=o*z'+l*z':=zvv _ _ _;refine .inr ⟨j,_,_,vs,rfl,h4,h5,?_,zvz q1 h7,?_⟩
         ·rw[zu0,zvQ,h6];omega
         ·have:=(h8.drop (l*z')).take ((u-l)*z');rw[zw0,zwZ,zwI,zvu (by omega)] at this;rw[q3];exact this
       ·cases e
      ·cases e
     ·cases e
   ·cases e
  ·cases e
 |iaa n z x i=>
  simp only[opX] at e;split at e
  ·rename_i j w o q k e1 e2;split at e
   ·rename_i h0;split at e
    ·rename_i h1;split at e
     ·rename_i hl;simp only[zuE,zuH] at e;obtain⟨rfl,rfl⟩:=e;obtain⟨t,z',cs,hc⟩:=jG hl;obtain⟨v',_,h2,h3⟩:=h.odv e1;have:=h3.ptr hc;subst this;simp only[opE,h2,(h.oda e2).1];rw[zuO h0,zuO h1];refine⟨by trivial,_,rfl,?_⟩;simp only[RF];simp only[RV] at h3⊢;exact⟨h3.1,h3.2.1,fun _=>by first|rfl|trivial⟩
     ·cases e
    ·cases e
   ·cases e
  ·cases e
 |fad off x=>
  simp only[opX] at e;split at e
  ·rename_i i w o e1;split at e
   ·rename_i hl;simp only[zuE,zuH] at e;obtain⟨rfl,rfl⟩:=e;obtain⟨t,z,cs,hc⟩:=jG hl;obtain⟨v',_,h2,h3⟩:=h.odv e1;have:=h3.ptr hc;subst this;simp only[opE,h2];refine⟨by trivial,_,rfl,?_⟩;simp only[RF];simp only[RV] at h3⊢;exact⟨h3.1,h3.2.1,fun _=>by first|rfl|trivial⟩
   ·cases e
  ·rename_i cs o e1;simp only[zuE,zuH] at e;obtain⟨rfl,rfl⟩:=e;obtain⟨v',_,h2,h3⟩:=h.odv e1;simp only[RV] at h3;obtain⟨j,q,t,vs,rfl,h4⟩:=h3;simp only[opE,h2];refine⟨by trivial,_,rfl,?_⟩;simp only[RF,RV];exact⟨j,q,t,vs,by rw[zwd],h4⟩
  ·cases e
 |fld agg off n x=>
  simp only[opX] at e;split at e
  ·rename_i l e1;obtain⟨m,h1,h2⟩:=h.odg e1;simp only[opE,h1];cases agg with
   |true=>
    simp only[if_true] at e⊢;split at e
    ·rename_i hl;simp only[zuE,zuH] at e;obtain⟨rfl,rfl⟩:=e;rw[zuO (by rw[←h2.len];exact hl)];exact⟨by trivial,_,rfl,(by simp only[RF];exact(h2.drop _).take _)⟩
    ·cases e
   |false=>
    simp only[zva,if_false] at e⊢;split at e
    ·rename_i u hu;simp only[zuE,zuH] at e;obtain⟨rfl,rfl⟩:=e;obtain⟨y,h3,h4⟩:=h2.get hu;simp only[h3];exact⟨by trivial,_,rfl,(by simp only[RF];exact h4)⟩
    ·cases e
  ·cases e
 |iad t z x i=>
  simp only[opX] at e;split at e
  ·rename_i k' k e2;obtain⟨p,e3,e4⟩:=map_some e;simp only[zuH] at e4;obtain⟨rfl,rfl⟩:=e4;obtain⟨u,e5,e6⟩:=zuU.1 e3;obtain⟨u',h1,h2⟩:=h.od e5;obtain⟨j,q,o,n,vs,rfl,h3,h4,h5,h6⟩:=h2.iad H e6;have h7:odS b x=some (.sl j q o n):=by unfold odS;rw[h1]
   simp only[opE,h7,(h.oda e2).1,h3,if_true];rw[zuO h4,zuO h5];exact⟨by trivial,_,rfl,(by simp only[RF];exact h6)⟩
  ·cases e
 |ext x i=>
  simp only[opX] at e;split at e
  ·rename_i l e1;split at e
   ·rename_i u hu;simp only[zuE,zuH] at e;obtain⟨rfl,rfl⟩:=e;obtain⟨y,h1,h2⟩:=h.od e1;obtain⟨m,rfl,h3⟩:=h2.tup_inv;obtain⟨y,h4,h5⟩:=h3.get hu;simp only[opE,h1,h4];exact⟨by trivial,_,rfl,h5⟩
   ·cases e
  ·cases e
 |_=>cases hp
def slX(fr:XFr)(x:OD):Option Nat:=match odX fr x with
 |some (.s (.ptr i _ _))=>some i
 |some (.s (.sl i _ _ _))=>some i
 |_=>none
def ZZ(fr:XFr):EO→Option Nat
 | .nilc x| .fad _ x| .iaa _ _ x _| .load _ _ x| .iad _ _ x _| .sli _ _ x _ _=>slX fr x
 |_=>none
def znM:XF→Bool
 | .s (.v _)=>true
 |_=>false
def JK(l os:List Nat):Bool:=l.all fun n=>os.contains n
theorem zj7{k:List Nat}{fr:XFr}{n:Nat}(h:n∈k):Zn (yS k fr) n=Zn fr n:=by
 induction k with
 |nil=>cases h
 |cons m k ih=>
  simp only[yS,zu2,Zn];by_cases e:n=m
  ·rw[zuO e,e]
  ·rw[zuQ e];exact ih ((zuX.1 h).resolve_left e)
theorem yJ{k:List Nat}{fr:XFr}{x:OD}(h:∀n∈odT x,n∈k):odX (yS k fr) x=odX fr x:=by
 cases x with
 |t n=>exact zj7 (h n (by simp[odT]))
 |c v=>rfl
theorem zdV{k:List Nat}{fr:XFr}{x:OD}(h:∀n∈odT x,n∈k):odA (yS k fr) x=odA fr x:=by unfold odA;rw[yJ h]
theorem zb4{k:List Nat}{fr:XFr}{d:Nat}{x:Option OD}(h:∀n∈zh4 x,n∈k):qC (yS k fr) d x=qC fr d x:=by
 cases x with
 |none=>rfl
 |some x=>unfold qC;simp only;rw[zdV h]
theorem zoo{fr:XFr}{g g0:XH}{o:EO}(hp:isL o=true){v:XF}{g':XH}(hg:∀i,ZZ fr o=some i→g[i]? =g0[i]?)(e:opX fr g o=some (v,g')):opX (yS (zQ o) fr) g0 o=some (v,g0):=by
 have cc:∀i w,(g[i]? =g0[i]?)→zL g0 i w=zL g i w:=fun i w h=>by unfold zL;rw[h]
 have lc:∀i w,(g[i]? =g0[i]?)→Yj g0 i w=Yj g i w:=fun i w h=>by unfold Yj;rw[cc i w h]
 have rc:∀u,(∀i,(match u with
  | .s (.ptr i _ _)=>some i
  | .s (.sl i _ _ _)=>some i
  |_=>none)=some i→g[i]? =g0[i]?)→rdX g0 u=rdX g u:=fun u h=>by
  cases u with
  |s u=>cases u<;>simp only[rdX];rw[cc _ _ (h _ rfl)]
  |agg l=>rfl
  |tup l=>rfl
 have ic:∀t z k u,(∀i,(match u with
  | .s (.ptr i _ _)=>some i
  | .s (.sl i _ _ _)=>some i
  |_=>none)=some i→g[i]? =g0[i]?)→jX g0 t z k u=jX g t z k u:=fun t z k u h=>by
  cases u with
  |s u=>cases u<;>simp only[jX];rw[cc _ _ (h _ rfl)]
  |agg l=>rfl
  |tup l=>rfl
 cases o with
 |mov x=>
  simp only[opX] at e⊢;rw[yJ (k:=zQ (.mov x)) (x:=x) (fun n hn=>hn)];obtain⟨u,h1,h2⟩:=map_some e;simp only[zuH] at h2;rw[h1,zvb,h2.1]
 |nilc x=>
  simp only[opX] at e⊢;rw[yJ (k:=zQ (.nilc x)) (x:=x) (fun n hn=>hn)];split at e
  ·rename_i i w o e1
   try simp only[e1]
   rw[lc i w (hg i (by simp only[ZZ,slX,e1]))];split at e
   ·rename_i h;rw[zuO h];simp only[zuE,zuH] at e;rw[e.1]
   ·cases e
  ·rename_i cs o e1;simp only[zuE,zuH] at e
   first|rw[e.1]|simp only[e1,e.1]
  ·cases e
 |iaa n z x i=>
  simp only[opX] at e⊢;rw[yJ (k:=zQ (.iaa n z x i)) (x:=x) (fun n hn=>zuY.2 (.inl hn)),zdV (k:=zQ (.iaa n z x i)) (x:=i) (fun n hn=>zuY.2 (.inr hn))];split at e
  ·rename_i j w o q k e1 e2
   try simp only[e1,e2]
   rw[lc j w (hg j (by simp only[ZZ,slX,e1]))];split at e
   ·rename_i h0;split at e
    ·rename_i h1;split at e
     ·rename_i hl;rw[zuO h0,zuO h1,zuO hl];simp only[zuE,zuH] at e;rw[e.1]
     ·cases e
    ·cases e
   ·cases e
  ·cases e
 |fad off x=>
  simp only[opX] at e⊢;rw[yJ (k:=zQ (.fad off x)) (x:=x) (fun n hn=>hn)];split at e
  ·rename_i i w o e1
   try simp only[e1]
   rw[lc i w (hg i (by simp only[ZZ,slX,e1]))];split at e
   ·rename_i h;rw[zuO h];simp only[zuE,zuH] at e;rw[e.1]
   ·cases e
  ·rename_i cs o e1;simp only[zuE,zuH] at e
   first|rw[e.1]|simp only[e1,e.1]
  ·cases e
 |fld agg off n x=>
  simp only[opX] at e⊢;rw[yJ (k:=zQ (.fld agg off n x)) (x:=x) (fun n hn=>hn)];split at e
  ·rename_i l e1
   try simp only[e1]
   cases agg with
   |true=>
    simp only[if_true] at e⊢;split at e
    ·rename_i h;simp only[zuE,zuH] at e;rw[zuO h,e.1]
    ·cases e
   |false=>
    simp only[zva,if_false] at e⊢;split at e
    ·rename_i u hu;simp only[zuE,zuH] at e
     first|rw[e.1]|simp only[hu,e.1]
    ·cases e
  ·cases e
 |ext x i=>
  simp only[opX] at e⊢;rw[yJ (k:=zQ (.ext x i)) (x:=x) (fun n hn=>hn)];split at e
  ·rename_i l e1
   try simp only[e1]
   split at e
   ·rename_i u hu;simp only[zuE,zuH] at e
    first|rw[e.1]|simp only[hu,e.1]
   ·cases e
  ·cases e
 |load agg n x=>
  simp only[opX] at e⊢;rw[yJ (k:=zQ (.load agg n x)) (x:=x) (fun n hn=>hn)];have hr:(odX fr x).bind (rdX g0)=(odX fr x).bind (rdX g):=by
   cases hx:odX fr x with
   |none=>rfl
   |some u=>exact rc u fun i hi=>hg i (by simp only[ZZ,slX,hx];cases u with
    |s u=>cases u<;>exact hi
    |agg l=>cases hi
    |tup l=>cases hi)
  rw[hr];split at e
  ·rename_i cs o e1;obtain⟨w,e4,e5⟩:=map_some e;simp only[zuH] at e5;simp only[e4,zvb,e5.1]
  ·cases e
 |iad t z x i=>
  simp only[opX] at e⊢;rw[yJ (k:=zQ (.iad t z x i)) (x:=x) (fun n hn=>zuY.2 (.inl hn)),zdV (k:=zQ (.iad t z x i)) (x:=i) (fun n hn=>zuY.2 (.inr hn))];split at e
  ·rename_i k' k e2
   try simp only[e2]
   have hr:(odX fr x).bind (jX g0 t z k)=(odX fr x).bind (jX g t z k):=by
    cases hx:odX fr x with
    |none=>rfl
    |some u=>exact ic t z k u fun i hi=>hg i (by simp only[ZZ,slX,hx];cases u with
     |s u=>cases u<;>exact hi
     |agg l=>cases hi
     |tup l=>cases hi)
   rw[hr];obtain⟨p,e3,e4⟩:=map_some e;simp only[zuH] at e4;simp only[e3,zvb,e4.1]
  ·cases e
 |sli t z x lo hi=>
  simp only[opX] at e⊢;rw[yJ (k:=zQ (.sli t z x lo hi)) (x:=x) (fun n hn=>zuY.2 (.inl (zuY.2 (.inl hn))))];simp only[zb4 (k:=zQ (.sli t z x lo hi)) (x:=lo) (fun n hn=>zuY.2 (.inl (zuY.2 (.inr hn)))),zb4 (k:=zQ (.sli t z x lo hi)) (x:=hi) (fun n hn=>zuY.2 (.inr hn))];split at e
  ·rename_i e1
   try simp only[e1]
   split at e
   ·rename_i e2 e3;simp only[zuE,zuH] at e
    first|rw[e.1]|simp only[e2,e3,e.1]
   ·cases e
  ·rename_i i w o n e1
   try simp only[e1]
   rw[cc i w (hg i (by simp only[ZZ,slX,e1]))];split at e
   ·rename_i l u t' z' cs e2 e3 hc
    try simp only[e2,e3,hc]
    split at e
    ·rename_i h1;split at e
     ·rename_i h2;split at e
      ·rename_i h3;split at e
       ·cases e
       ·rename_i h4;simp only[zuE,zuH] at e;rw[zuO h1,zuO h2,zuO h3,zuQ h4,e.1]
      ·cases e
     ·cases e
    ·cases e
   ·cases e
  ·rename_i t' z' n cs e1
   try simp only[e1]
   split at e
   ·rename_i l u e2 e3
    try simp only[e2,e3]
    split at e
    ·cases e
    ·rename_i h0;split at e
     ·rename_i h1;split at e
      ·rename_i h2;split at e
       ·rename_i h3;simp only[zuE,zuH] at e;rw[zuQ h0,zuO h1,zuO h2,zuO h3,e.1]
       ·cases e
      ·cases e
     ·cases e
   ·cases e
  ·cases e
 |_=>cases hp
def zoL(fr:Fr):EO→Option Nat
 | .load _ _ x| .iad _ _ x _| .sli _ _ x _ _=>match odS fr x with
   |some (.ptr i _)=>some i
   |some (.sl i _ _ _)=>some i
   |_=>none
 |_=>none
def isA:EO→Bool
 | .load _ _ _| .iad _ _ _ _| .sli _ _ _ _ _=>true
 |_=>false
theorem ztP{fr:Fr}{h h':LH}{o:EO}(hp:isA o=true)(hq:∀i,zoL fr o=some i→h'[i]? =h[i]?){v:FV}(e:opE fr h o=some (v,h)):opE fr h' o=some (v,h'):=by
 have cc:∀i,h'[i]? =h[i]?→cellsOf h' i=cellsOf h i:=fun i hi=>by rw[zV,zV,hi]
 cases o with
 |load agg n x=>
  simp only[opE] at e⊢;split at e
  ·rename_i i o e1
   try simp only[e1]
   rw[cc i (hq i (by simp only[zoL,e1]))];split at e
   ·rename_i t vs hc
    try simp only[hc]
    cases agg with
    |true=>
     simp only[if_true] at e⊢;split at e
     ·rename_i hl;simp only[zuE,zuH] at e;rw[zuO hl,e.1]
     ·cases e
    |false=>
     simp only[zva,if_false] at e⊢;split at e
     ·rename_i u hu;simp only[zuE,zuH] at e
      first|rw[e.1]|simp only[hu,e.1]
     ·cases e
   ·cases e
  ·cases e
 |iad t z x i=>
  simp only[opE] at e⊢;split at e
  ·rename_i j p o n k' k e1 e2
   try simp only[e1,e2]
   rw[cc j (hq j (by simp only[zoL,e1]))];split at e
   ·rename_i t' vs hc
    try simp only[hc]
    split at e
    ·rename_i h1;split at e
     ·rename_i h2;split at e
      ·rename_i h3;simp only[zuE,zuH] at e;rw[zuO h1,zuO h2,zuO h3,e.1]
      ·cases e
     ·cases e
    ·cases e
   ·cases e
  ·cases e
 |sli t z x lo hi=>
  simp only[opE] at e⊢;split at e
  ·rename_i e1
   try simp only[e1]
   split at e
   ·rename_i e2 e3;simp only[zuE,zuH] at e
    first|rw[e.1]|simp only[e2,e3,e.1]
   ·cases e
  ·rename_i i p o n e1
   try simp only[e1]
   rw[cc i (hq i (by simp only[zoL,e1]))];split at e
   ·rename_i l u t' vs e2 e3 hc
    try simp only[e2,e3,hc]
    split at e
    ·rename_i h1;split at e
     ·rename_i h2;split at e
      ·rename_i h3;simp only[zuE,zuH] at e;rw[zuO h1,zuO h2,zuO h3,e.1]
      ·cases e
     ·cases e
    ·cases e
   ·cases e
  ·cases e
 |_=>cases hp
def zgz(os:List Nat)(o:EO)(v:XF):Bool:=znM v||(isL o&&JK (zQ o) os)
def zlU(D:Nat→Prop)(os:List Nat)(fr:XFr)(o:EO):Prop:=JK (zQ o) os=true→∀i,ZZ fr o=some i→¬D i
def nxO(os:List Nat)(d:Option Nat)(b:Bool):List Nat:=match d with
 |some n=>if b then n::os else os.filter fun m=>m !=n
 |none=>os
def wd(C:Nat→Option EF)(B D:Nat→Prop)(n0:Nat)(P:List Nat):Nat→List Nat→List EG→XFr→XH→(XFr→XH→Prop)→Prop
 |_,_,[],fr,g,Φ=>Φ fr g
 |k,os,x::l,fr,g,Φ=>
  let run:=fun fr:XFr=>(P.contains k=true→isA x.op=true∧JK (zQ x.op) os=true)∧(isL x.op=true→zlU D os fr x.op)∧ws C (fun i=>B i∧(n0≤i∨D i)) x.op fr g (fun v g'=>wd C B D n0 P (k+1) (nxO os x.dst (zgz os x.op v)) l (jT fr x.dst (some v)) g' Φ);let skip:=fun fr:XFr=>wd C B D n0 P (k+1) (nxO os x.dst true) l (jT fr x.dst (some (.tup []))) g Φ
  match x.guard with
  |none=>run fr
  |some (s,b)=>match Zn fr s with
   |some (.s (.v (.bool t)))=>match b with
    |true=>br t (run (j0 fr s true)) (skip (j0 fr s false))
    |false=>br t (skip (j0 fr s true)) (run (j0 fr s false))
   |some (.tup [])=>skip fr
   |_=>False
structure St(D:Nat→Prop)(R:XE)(h:LH):Prop where
 le:R.h.length≤h.length
 same:∀q,q<R.h.length→(∀i,D i→sol R i→R.φ i≠q)→h[q]? =R.h[q]?
theorem Ex2.st{D:Nat→Prop}{R R':XE}(x:Ex2 (fun i=>R.g.length≤i∨D i) R R'):St D R R'.h:=⟨x.lh,fun q hq hn=>x.same q hq fun i hi hs=>hn i (hi.resolve_left (by have:=sol_lt hs;omega)) hs⟩
theorem zrl{D:Nat→Prop}{R0:XE}(H0:HR R0){a:XFr}{b:Fr}(h:RFr R0 a b){o:EO}(hp:isA o=true){v:XF}{g:XH}(e:opX a R0.g o=some (v,g))(hD:∀i,ZZ a o=some i→¬D i){h1:LH}(st:St D R0 h1):∀q,zoL b o=some q→h1[q]? =R0.h[q]? :=by
 intro q hq
 have key:∀x s,odX a x=some (.s s)→slX a x=ZZ a o→(match odS b x with
  |some (.ptr i _)=>some i
  |some (.sl i _ _ _)=>some i
  |_=>none)=some q→(match s with
  | .ptr i w _=>∃t z cs,zL R0.g i w=some (t,z,cs)∧cs≠[]
  | .sl i w _ _=>∃t z cs,zL R0.g i w=some (t,z,cs)
  | .cl _=>False
  |_=>True)→h1[q]? =R0.h[q]? :=by
  intro x s hs hsrc hm hgood;obtain⟨s1,_,h2,h3⟩:=h.odv hs;rw[h2] at hm;have stab:∀i,sol R0 i→¬D i→R0.φ i=q→h1[q]? =R0.h[q]? :=fun i hsol hnd hphi=>by refine st.same q (hphi▸(H0.not_z hsol).2) fun i' hD' hs' he=>hnd ?_;have:=H0.inj i' i hs' hsol (he.trans hphi.symm);exact this▸hD'
  have stabz:R0.z q→h1[q]? =R0.h[q]? :=fun hz=>st.same q (H0.fz q hz) fun i _ hs he=>(H0.not_z hs).1 (he▸hz);cases s with
  |v c=>
   simp only[RV] at h3;obtain⟨rfl,h4⟩:=h3;cases s1<;>simp[nlS] at h4 hm
  |ptr i w p=>
   obtain⟨t,z,cs,hc,hcs⟩:=hgood;have h5:=h3.ptr hc;subst h5;simp only[zuE] at hm;have hs0:ZZ a o=some i:=by rw[←hsrc];simp only[slX,hs]
   exact stab i (zgQ hc hcs) (hD i hs0) hm
  |sl i w p n=>
   obtain⟨t,z,cs,hc⟩:=hgood;rcases h3.sl hc with⟨_,_,_,rfl|⟨j,p,q,rfl⟩⟩|⟨hcs,p',rfl⟩
   ·simp at hm
   ·simp at hm
   ·simp only[zuE] at hm;have hs0:ZZ a o=some i:=by rw[←hsrc];simp only[slX,hs]
    exact stab i hcs (hD i hs0) hm
  |lst t z n cs=>
   simp only[RV] at h3;rcases h3 with⟨_,_,rfl|⟨i,p,o,rfl⟩⟩|⟨j,p,o,vs,rfl,hz,_⟩
   ·simp at hm
   ·simp at hm
   ·simp only[zuE] at hm;exact stabz (hm▸hz)
  |lp cs o=>
   simp only[RV] at h3;obtain⟨j,q',t,vs,rfl,hz,_⟩:=h3;simp only[zuE] at hm;exact stabz (hm▸hz)
  |cl i=>exact hgood.elim
  |nl=>
   simp only[RV] at h3;rcases h3 with rfl|⟨i,p,o,rfl⟩<;>simp at hm
 cases o with
 |load agg n x=>
  simp only[opX] at e;split at e
  ·rename_i cs o e1;obtain⟨u,e2,e3⟩:=zuU.1 e1;obtain⟨w,e4,_⟩:=map_some e;have hne:cs≠[]:=by
    rintro rfl;cases agg<;>simp[ldC] at e4;omega
   cases u with
   |agg l=>simp[rdX] at e3
   |tup l=>simp[rdX] at e3
   |s u=>
    refine key x _ e2 rfl hq ?_;cases u with
    |ptr i w o'=>
     simp only[rdX] at e3;split at e3
     ·rename_i t z cs' hc;simp only[zuE,zuH] at e3;obtain⟨rfl,_⟩:=e3;exact⟨t,z,_,hc,hne⟩
     ·cases e3
    |sl i w o' n'=>simp[rdX] at e3
    |cl i=>simp[rdX] at e3
    |_=>trivial
  ·cases e
 |iad t z x i=>
  simp only[opX] at e;split at e
  ·rename_i k' k e2;obtain⟨p,e3,_⟩:=map_some e;obtain⟨u,e5,e6⟩:=zuU.1 e3;cases u with
   |agg l=>simp[jX] at e6
   |tup l=>simp[jX] at e6
   |s u=>
    refine key x _ e5 rfl hq ?_;cases u with
    |sl i' w o' n'=>
     simp only[jX] at e6;split at e6
     ·rename_i t' z' cs hc;exact⟨_,_,_,hc⟩
     ·cases e6
    |ptr i' w o'=>simp[jX] at e6
    |cl i'=>simp[jX] at e6
    |_=>trivial
  ·cases e
 |sli t z x lo hi=>
  simp only[opX] at e;split at e
  ·rename_i e1;exact key x _ e1 rfl hq trivial
  ·rename_i i w o n e1;split at e
   ·rename_i l u t' z' cs e2 e3 hc;exact key x _ e1 rfl hq ⟨_,_,_,hc⟩
   ·cases e
  ·rename_i t' z' n cs e1;exact key x _ e1 rfl hq trivial
  ·cases e
 |_=>cases hp
def zfA(R0:XE)(os:List Nat)(a:XFr)(b:Fr):Prop:=∀n∈os,(∀x,Zn a n=some x→∃y,yq b n=some y∧RF R0 x y)∧(Zn a n=none→yq b n=none)
theorem zfA.keep{R0:XE}{os:List Nat}{a:XFr}{b:Fr}(h:zfA R0 os a b):∀{k:List Nat},JK k os=true→RFr R0 (yS k a) (zl k b)
 |[],_=>by simp[yS,zl,RFr]
 |n::k,e=>by
  simp only[JK,zwp,zuP] at e;have ih:=zfA.keep h (k:=k) e.2;have hn:=h n (by simpa using e.1);simp only[yS,zl,zu2] at ih⊢;cases e1:Zn a n with
  |none=>rw[hn.2 e1];simp only[RFr];exact⟨trivial,ih⟩
  |some x=>
   obtain⟨y,e2,r⟩:=hn.1 x e1;rw[e2];simp only[RFr];exact⟨trivial,r,ih⟩
theorem zfA.put{R0:XE}{os:List Nat}{a:XFr}{b:Fr}(h:zfA R0 os a b)(d:Option Nat){t:Bool}{v:XF}{v':FV}(hv:t=true→RF R0 v v'):zfA R0 (nxO os d t) (jT a d (some v)) (qx b d (some v')):=by
 cases d with
 |none=>exact h
 |some m=>
  intro n hn;simp only[jT,qx,Zn,yq];by_cases e:n=m
  ·rw[zuO e,zuO e];cases t with
   |true=>exact⟨fun x hx=>⟨v',rfl,by cases hx;exact hv rfl⟩,fun hx=>by cases hx⟩
   |false=>simp[nxO,e] at hn
  ·rw[zuQ e,zuQ e];cases t with
   |true=>
    simp only[nxO,if_true] at hn;exact h n ((zuX.1 hn).resolve_left e)
   |false=>
    simp only[nxO,zva,if_false] at hn;exact h n (zvx.1 hn).1
theorem RFr.olds{R:XE}{a:XFr}{b:Fr}(h:RFr R a b)(os:List Nat):zfA R os a b:=fun n _=>h.get
theorem zon{fr:Fr}{h h':LH}{o:EO}(hp:isL o=true)(ha:isA o=false){v:FV}(e:opE fr h o=some (v,h)):opE fr h' o=some (v,h'):=by
 cases o with
 |mov x=>
  simp only[opE] at e⊢;obtain⟨u,h1,h2⟩:=map_some e;simp only[zuH] at h2;rw[h1,zvb,h2.1]
 |nilc x=>
  simp only[opE] at e⊢;split at e
  ·rename_i e1;simp only[zuE,zuH] at e
   first|rw[e.1]|simp only[e1,e.1]
  ·cases e
 |iaa n z x i=>
  simp only[opE] at e⊢;split at e
  ·rename_i e1 e2;split at e
   ·rename_i h0;split at e
    ·rename_i h1;simp only[zuE,zuH] at e
     try simp only[e1,e2]
     rw[zuO h0,zuO h1,e.1]
    ·cases e
   ·cases e
  ·cases e
 |fad off x=>
  simp only[opE] at e⊢;split at e
  ·rename_i e1;simp only[zuE,zuH] at e
   first|rw[e.1]|simp only[e1,e.1]
  ·cases e
 |fld agg off n x=>
  simp only[opE] at e⊢;split at e
  ·rename_i l e1;cases agg with
   |true=>
    simp only[if_true] at e⊢;split at e
    ·rename_i hl;simp only[zuE,zuH] at e
     try simp only[e1]
     rw[zuO hl,e.1]
    ·cases e
   |false=>
    simp only[zva,if_false] at e⊢;split at e
    ·rename_i u hu;simp only[zuE,zuH] at e
     try simp only[e1]
     first|rw[e.1]|simp only[hu,e.1]
    ·cases e
  ·cases e
 |ext x i=>
  simp only[opE] at e⊢;split at e
  ·rename_i l e1;split at e
   ·rename_i u hu;simp only[zuE,zuH] at e
    try simp only[e1]
    first|rw[e.1]|simp only[hu,e.1]
   ·cases e
  ·cases e
 |load agg n x=>cases ha
 |iad t z x i=>cases ha
 |sli t z x lo hi=>cases ha
 |_=>cases hp
theorem zdB{o:EO}(h:isL o=true):jA o=false:=by cases o<;>first|rfl|cases h
theorem zom{C:Nat→Option EF}{D:Nat→Prop}{R0 R:XE}(H0:HR R0)(H:HR R)(x:Ex2 (fun i=>R0.g.length≤i∨D i) R0 R){a:XFr}{b:Fr}(h:RFr R a b){os:List Nat}(ho:zfA R0 os a b){o:EO}(hp:isL o=true)(hs:JK (zQ o) os=true)(hD:zlU D os a o){v:XF}{g:XH}(e:opX a R.g o=some (v,g)){v1:FV}(e1:opE b R.h o=some (v1,R.h)):
 RF R0 v v1∧(isA o=true→∀h,St D R0 h→opE b h o=some (v1,h)):=by
 have hk:=ho.keep hs;have hg:∀i,ZZ a o=some i→R.g[i]? =R0.g[i]? :=fun i hi=>by
  have hn:=hD hs i hi;have hlt:i<R0.g.length:=by
   have key:∀y:OD,(∀n∈odT y,n∈zQ o)→slX a y=some i→i<R0.g.length:=fun y hy hsl=>by
    unfold slX at hsl;have hod:=yJ (k:=zQ o) (fr:=a) (x:=y) hy;split at hsl
    ·rename_i j w p ej;obtain rfl:=zuG hsl;rw[←hod] at ej;obtain⟨y',_,_,hr⟩:=hk.odv ej;have:=RV.lt _ _ hr;simpa[lvV] using this
    ·rename_i j w p n ej;obtain rfl:=zuG hsl;rw[←hod] at ej;obtain⟨y',_,_,hr⟩:=hk.odv ej;have:=RV.lt _ _ hr;simpa[lvV] using this
    ·cases hsl
   cases o with
   |nilc y=>exact key y (fun n hn=>hn) hi
   |fad off y=>exact key y (fun n hn=>hn) hi
   |iaa n z y i'=>exact key y (fun n hn=>zuY.2 (.inl hn)) hi
   |load agg n y=>exact key y (fun n hn=>hn) hi
   |iad t z y i'=>exact key y (fun n hn=>zuY.2 (.inl hn)) hi
   |sli t z y lo hi'=>exact key y (fun n hn=>zuY.2 (.inl (zuY.2 (.inl hn)))) hi
   |_=>simp[ZZ] at hi
  exact x.gs i hlt fun hb=>hb.elim (fun h=>absurd hlt (Nat.not_lt.2 h)) hn
 have e0:=zoo hp hg e;obtain⟨_,v0,e2,r0⟩:=zkO H0 hk hp e0;have st:=x.st;have kb:∀h,opE (zl (zQ o) b) h o=opE b h o:=fun h=>by have:=zfr (call:=zy C) (fr:=b) (keep:=zQ o) (h:=h) (o:=o) (fun n hn=>hn);unfold zK at this;rw[zdB hp] at this;simpa using this
 have all:∀h,St D R0 h→opE b h o=some (v0,h):=fun h sth=>by
  rw[←kb h];cases ha:isA o with
  |true=>exact ztP ha (zrl H0 hk ha e0 (fun i hi=>hD hs i (by
    have:ZZ (yS (zQ o) a) o=ZZ a o:=by
     cases o with
     |nilc y=>simp only[ZZ,slX];rw[yJ (k:=zQ (.nilc y)) (fun n hn=>hn)]
     |fad off y=>simp only[ZZ,slX];rw[yJ (k:=zQ (.fad off y)) (fun n hn=>hn)]
     |iaa n z y i'=>simp only[ZZ,slX];rw[yJ (k:=zQ (.iaa n z y i')) (fun n hn=>zuY.2 (.inl hn))]
     |load agg n y=>simp only[ZZ,slX];rw[yJ (k:=zQ (.load agg n y)) (fun n hn=>hn)]
     |iad t z y i'=>simp only[ZZ,slX];rw[yJ (k:=zQ (.iad t z y i')) (fun n hn=>zuY.2 (.inl hn))]
     |sli t z y lo hi'=>simp only[ZZ,slX];rw[yJ (k:=zQ (.sli t z y lo hi')) (fun n hn=>zuY.2 (.inl (zuY.2 (.inl hn))))]
     |_=>rfl
    rw[←this];exact hi)) sth) e2
  |false=>exact zon hp ha e2
 have hv:v0=v1:=by have:=(all R.h st).symm.trans e1;simpa using this
 exact⟨hv▸r0,fun _ h sth=>hv▸all h sth⟩
def TrI(C:Nat→Option EF)(D:Nat→Prop)(R0:XE)(P:List Nat)(tr:List (Option TE)):Prop:=∀i t,tr[i]? =some (some t)→St D R0 t.h∧St D R0 t.h'∧(P.contains i=true→isA t.op=true∧∀h,St D R0 h→zK (zy C) t.fr h t.op=some (t.v,h))
theorem TrI.add{C:Nat→Option EF}{D:Nat→Prop}{R0:XE}{P:List Nat}{tr:List (Option TE)}(h:TrI C D R0 P tr){t:Option TE}(ht:∀x,t=some x→St D R0 x.h∧St D R0 x.h'∧(P.contains tr.length=true→isA x.op=true∧∀h,St D R0 h→zK (zy C) x.fr h x.op=some (x.v,h))):TrI C D R0 P (tr++[t]):=fun i x e=>by
 by_cases hi:i<tr.length
 ·rw[zuK hi] at e;exact h i x e
 ·rw[zuN (by omega)] at e;have:i-tr.length=0:=by
   by_cases h0:i-tr.length=0
   ·exact h0
   ·rw[zvK (by simp;omega)] at e;cases e
  rw[this] at e;simp only[zvt,zuE] at e;have hi':i=tr.length:=by omega
  rw[hi'];exact ht x e
theorem Zd{C:Nat→Option EF}{B D:Nat→Prop}{R0:XE}(H0:HR R0){P:List Nat}:∀{l:List EG} {k:Nat} {os:List Nat} {R:XE} (H:HR R) (x0:Ex2 (fun i=>B i∧(R0.g.length≤i∨D i)) R0 R) {a:XFr} {b:Fr} (h:RFr R a b) (ho:zfA R0 os a b) {tr:List (Option TE)} (hk:tr.length=k) (ht:TrI C D R0 P tr) {Φ:XFr→XH→Prop} (w:wd C B D R0.g.length P k os l a R.g Φ),
 WT C l b R.h tr (fun tr' fr1 h1=>TrI C D R0 P tr'∧tr'.length=k+l.length∧∃R' fr,R'.h=h1∧HR R'∧Ex2 B R0 R'∧RFr R' fr fr1∧Φ fr R'.g)
 |[],k,os,R,H,x0,a,b,h,ho,tr,hk,ht,Φ,w=>by
  rw[zoT];exact⟨ht,by simp[hk],R,a,rfl,H,x0.wide fun i _ hb=>hb.1,h,w⟩
 |x::l,k,os,R,H,x0,a,b,h,ho,tr,hk,ht,Φ,w=>by
  have xE:Ex2 (fun i=>R0.g.length≤i∨D i) R0 R:=x0.wide fun i _ hb=>hb.2;have run:jt b x.guard=some true→((P.contains k=true→isA x.op=true∧JK (zQ x.op) os=true)∧(isL x.op=true→zlU D os a x.op)∧ws C (fun i=>B i∧(R0.g.length≤i∨D i)) x.op a R.g (fun v g'=>wd C B D R0.g.length P (k+1) (nxO os x.dst (zgz os x.op v)) l (jT a x.dst (some v)) g' Φ))→WT C (x::l) b R.h tr (fun tr' fr1 h1=>TrI C D R0 P tr'∧tr'.length=k+(x::l).length∧∃R' fr,R'.h=h1∧HR R'∧Ex2 B R0 R'∧RFr R' fr fr1∧Φ fr R'.g):=by
   rintro hw ⟨hP,hld,w⟩;rw[Qo,hw];simp only
   --one operation
   have step:∃v1 R' v,zK (zy C) b R.h x.op=some (v1,R'.h)∧HR R'∧Ex2 (fun i=>B i∧(R0.g.length≤i∨D i)) R R'∧RF R' v v1∧wd C B D R0.g.length P (k+1) (nxO os x.dst (zgz os x.op v)) l (jT a x.dst (some v)) R'.g Φ∧(isL x.op=true→JK (zQ x.op) os=true→RF R0 v v1∧(isA x.op=true→∀h,St D R0 h→opE b h x.op=some (v1,h))):=by
    cases hL:isL x.op with
    |false=>
     obtain⟨v1,h1,e,R',v,rfl,a2,a3,a4,a5⟩:=zo8 H h w;exact⟨v1,R',v,e,a2,a3,a4,a5,fun hf=>by cases hf⟩
    |true=>
     have e0:mx (opX a R.g x.op) (fun v g'=>wd C B D R0.g.length P (k+1) (nxO os x.dst (zgz os x.op v)) l (jT a x.dst (some v)) g' Φ):=by
      generalize x.op=o at hL w;cases o<;>first|(cases hL;done)|exact w
     unfold mx at e0;split at e0
     ·rename_i v g e1;obtain⟨rfl,v1,e2,r⟩:=zkO H h hL e1;refine⟨v1,R,v,?_,H,Ex2.refl _ _,r,e0,fun _ hs=> ?_⟩
      ·unfold zK;rw[zdB hL];simpa using e2
      ·exact zom (C:=C) H0 H xE h ho hL hs (hld hL) e1 e2
     ·exact e0.elim
   obtain⟨v1,R',v,e,a2,a3,a4,a5,a6⟩:=step;rw[e];rw[zkF,zcO];have xE':Ex2 (fun i=>R0.g.length≤i∨D i) R0 R':=(x0.trans a3).wide fun i _ hb=>hb.2;have hold:zgz os x.op v=true→RF R0 v v1:=fun hh=>by
    unfold zgz at hh;rw[zvJ] at hh;rcases hh with hh|hh
    ·cases v with
     |s c=>
      cases c<;>simp[znM] at hh;obtain⟨y,rfl,r⟩:=a4.s_inv;simp only[RF,RV] at r⊢;exact r
     |agg l=>simp[znM] at hh
     |tup l=>simp[znM] at hh
    ·rw[zuP] at hh;exact(a6 hh.1 hh.2).1
   have:=Zd H0 (l:=l) a2 (x0.trans a3) ((h.mono H a3).put x.dst a4) (ho.put x.dst hold) (tr:=tr++[some ⟨zl (zI x) b,R.h,x.op,v1,R'.h⟩]) (k:=k+1) (by simp[hk]) (ht.add fun t et=>by
    obtain rfl:=zuG et;refine⟨xE.st,xE'.st,fun hp=> ?_⟩;rw[hk] at hp;obtain⟨hA,hs⟩:=hP hp;have hL:isL x.op=true:=by
     generalize x.op=o at hA;cases o<;>first|rfl|cases hA
    refine⟨hA,fun h' sth=> ?_⟩;rw[zaq];unfold zK;rw[zdB hL];simpa using(a6 hL hs).2 hA h' sth) a5
   have e3:k+1+l.length=k+(x::l).length:=by simp;omega
   rwa [e3] at this
  have skip:jt b x.guard=some false→wd C B D R0.g.length P (k+1) (nxO os x.dst true) l (jT a x.dst (some (.tup []))) R.g Φ→WT C (x::l) b R.h tr (fun tr' fr1 h1=>TrI C D R0 P tr'∧tr'.length=k+(x::l).length∧∃R' fr,R'.h=h1∧HR R'∧Ex2 B R0 R'∧RFr R' fr fr1∧Φ fr R'.g):=by
   intro hw w;rw[Qo,hw];simp only;have:=Zd H0 (l:=l) H x0 (h.put x.dst (v:= .tup []) (v':= .tup []) (by simp[RF,RFs])) (ho.put x.dst (t:=true) (v:= .tup []) (v':= .tup []) fun _=>by simp[RF,RFs]) (tr:=tr++[none]) (k:=k+1) (by simp[hk]) (ht.add fun t et=>by cases et) w;have e3:k+1+l.length=k+(x::l).length:=by simp;omega
   rwa [e3] at this
  simp only[wd] at w;split at w
  ·rename_i hg;exact run (by rw[hg];rfl) w
  ·rename_i s t hg;split at w
   ·rename_i u e;obtain⟨y,h1,h2⟩:=h.get.1 _ e;obtain⟨c,rfl,h3⟩:=h2.s_inv;simp only[RV] at h3;obtain⟨rfl,_⟩:=h3;have hw:jt b x.guard=some (u==t):=by rw[hg];simp only[jt,h1]
    cases t<;>cases u<;>simp only[br,zb1 e] at w
    ·exact run (by rw[hw];rfl) w
    ·exact skip (by rw[hw];rfl) w
    ·exact skip (by rw[hw];rfl) w
    ·exact run (by rw[hw];rfl) w
   ·rename_i e;obtain⟨y,h1,h2⟩:=h.get.1 _ e;obtain⟨m,rfl,h3⟩:=h2.tup_inv;cases m with
    |nil=>exact skip (by rw[hg];simp only[jt,h1]) w
    |cons _ _=>simp[RFs] at h3
   ·exact w.elim
theorem Zb{C:Nat→Option EF}{D:Nat→Prop}{R0:XE}{P:List Nat}{tr:List (Option TE)}(ht:TrI C D R0 P tr):∀{ps:List (Nat×Nat)},(ps.all fun p=>P.contains p.1&&decide (p.1<tr.length)&&decide (p.2<tr.length))=true→yg (zy C) tr ps
 |[],_=>trivial
 |p::ps,h=>by
  simp only[zwp,zuP,zuW] at h;refine⟨?_,Zb ht (by simpa using h.2)⟩;obtain⟨⟨⟨h1,h2⟩,h3⟩,_⟩:=h;obtain⟨x,ex⟩:∃x,tr[p.1]? =some x:=⟨_,zuV h2⟩
  obtain⟨y,ey⟩:∃y,tr[p.2]? =some y:=⟨_,zuV h3⟩
  unfold qb;rw[ex,ey];cases x with
  |none=>cases y<;>trivial
  |some x=>
   cases y with
   |none=>trivial
   |some y=>
    obtain⟨_,_,q⟩:=ht _ _ ex;obtain⟨q1,q2⟩:=q h1;obtain⟨s1,s2,_⟩:=ht _ _ ey;refine .inr (.inl ⟨q2 _ s1,q2 _ s2,fun hc=> ?_⟩);exfalso;generalize x.op=o at q1 hc;cases o<;>first|(cases q1;done)|(cases hc;done)
theorem y7{C:Nat→Option EF}:∀{l:List EG} {fr:Fr} {h:LH} {tr:List (Option TE)} {Φ Ψ:List (Option TE)→Fr→LH→Prop},WT C l fr h tr Φ→(∀t f h,Φ t f h→Ψ t f h)→WT C l fr h tr Ψ
 |[],_,_,_,_,_,w,hm=>hm _ _ _ w
 |x::l,fr,h,tr,Φ,Ψ,w,hm=>by
  rw[Qo] at w⊢;split at w
  ·rename_i hw;unfold mt at w⊢;split at w
   ·rename_i v h' e
    try simp only[e]
    rw[zcO] at w⊢;exact y7 w hm
   ·exact w.elim
  ·exact y7 w hm
  ·exact w.elim
theorem zeM{C:Nat→Option EF}{B:Nat→Prop}(D:Nat→Prop){l:List EG}{ps:List (Nat×Nat)}{keep:List Nat}{fr:XFr}{g:XH}{Φ:Ex→XFr→XH→Prop}(hp:(ps.all fun p=>decide (p.1<l.length)&&decide (p.2<l.length))=true)(w:wd C B D g.length (ps.map (·.1)) 0 (fr.map (·.1)) l fr g (KOx keep Φ)):Ck C B (.draw l ps keep) fr g Φ:=by rintro R fr1 rfl H h;refine J3 ?_;refine y7 (Zd (D:=D) H H (Ex2.refl _ _) h (h.olds _) rfl (fun i t e=>by simp at e) w) ?_;rintro tr' fr2 h2 ⟨h3,h4,R',f,rfl,a2,a3,a4,a5⟩;refine⟨Zb h3 ?_,R',yS keep f,rfl,a2,a3,a4.keep keep,a5⟩;rw[zu4] at hp⊢;intro p hpm;have:=hp p hpm;simp only[zuP,zuW] at this⊢;refine⟨⟨?_,by omega⟩,by omega⟩;simpa using⟨p.2,hpm⟩
def KQx(C:Nat→Option EF)(B D:Nat→Prop)(n0:Nat)(P:List Nat)(k:Nat)(os:List Nat)(o:EO)(l:List EG)(Φ:XFr→XH→Prop)(fr:XFr)(d:Option Nat):XF→XH→Prop:=fun v g=>wd C B D n0 P (k+1) (nxO os d (zgz os o v)) l (jT fr d (some v)) g Φ
def run'(C:Nat→Option EF)(B D:Nat→Prop)(n0:Nat)(P:List Nat)(k:Nat)(os:List Nat)(d:Option Nat)(o:EO)(l:List EG)(fr:XFr)(g:XH)(Φ:XFr→XH→Prop):Prop:=(P.contains k=true→isA o=true∧JK (zQ o) os=true)∧(isL o=true→zlU D os fr o)∧ws C (fun i=>B i∧(n0≤i∨D i)) o fr g (KQx C B D n0 P k os o l Φ fr d)
def gq(C:Nat→Option EF)(B D:Nat→Prop)(n0:Nat)(P:List Nat)(x:Option XF)(s:Nat)(b:Bool)(k:Nat)(os:List Nat)(d:Option Nat)(o:EO)(l:List EG)(fr:XFr)(g:XH)(Φ:XFr→XH→Prop):Prop:=match x with
 |some (.s (.v (.bool t)))=>match b with
  |true=>br t (run' C B D n0 P k os d o l (j0 fr s true) g Φ) (wd C B D n0 P (k+1) (nxO os d true) l (jT (j0 fr s false) d (some (.tup []))) g Φ)
  |false=>br t (wd C B D n0 P (k+1) (nxO os d true) l (jT (j0 fr s true) d (some (.tup []))) g Φ) (run' C B D n0 P k os d o l (j0 fr s false) g Φ)
 |some (.tup [])=>wd C B D n0 P (k+1) (nxO os d true) l (jT fr d (some (.tup []))) g Φ
 |_=>False
section
variable {C:Nat→Option EF} {B D:Nat→Prop} {n0:Nat} {P:List Nat} {k:Nat} {os:List Nat} {d:Option Nat} {o:EO} {l:List EG} {fr:XFr} {g:XH} {Φ:XFr→XH→Prop}
end
inductive Dm.{u} {α:Sort u} (a:α):Type
 |mk:Dm a
section
variable (C:Nat→Option EF) (B:Nat→Prop)
def xbr(t:Bool)(A A':Prop)(_:Dm (A∧A')):Prop:=br t A A'
def xan(A A':Prop)(_:Dm (A∧A')):Prop:=A∧A'
def xmx(r:Option (XF×XH))(Ψ:XF→XH→Prop)(_:Dm Ψ):Prop:=mx r Ψ
def xnq(q:Option (Option Bool))(neq:Bool)(g:XH)(Ψ:XF→XH→Prop)(_:Dm (g,Ψ)):Prop:=nq q neq g Ψ
def xca(f:Nat)(as:Option (List XF))(g:XH)(Ψ:XF→XH→Prop)(_:Dm (B,g,Ψ)):Prop:=ca' C B f as g Ψ
def xcv(x:Option XF)(as:Option (List XF))(g:XH)(Ψ:XF→XH→Prop)(_:Dm (B,g,Ψ)):Prop:=cv' C B x as g Ψ
def xcl(o:Option XO)(as:List XF)(g:XH)(Ψ:XF→XH→Prop)(_:Dm (B,as,g,Ψ)):Prop:=match o with
 |some (.clo f first caps)=>zb C B f (first++as++caps) g Ψ
 |_=>False
def xCX(f:Nat)(as:List XF)(g:XH)(Ψ:XF→XH→Prop)(_:Dm (B,Ψ)):Prop:=zb C B f as g Ψ
def xLp(keep:List Nat)(c:EC)(fr:XFr)(g:XH)(Φ:Ex→XFr→XH→Prop)(_:Dm (B,keep,c,Φ)):Prop:=Lp C B keep c fr g Φ
def xCk(c:EC)(fr:XFr)(g:XH)(Φ:Ex→XFr→XH→Prop)(_:Dm (B,c,Φ)):Prop:=Ck C B c fr g Φ
def xpk(c:Option SV)(x y:Option XF)(g:XH)(Ψ:XF→XH→Prop)(_:Dm (g,Ψ)):Prop:=pk c x y g Ψ
def xcd(c:Option SV)(a b:EC)(fr:XFr)(g:XH)(Φ:Ex→XFr→XH→Prop)(_:Dm (B,a,b,fr,g,Φ)):Prop:=cd C B c a b fr g Φ
def xgd(x:Option XF)(s:Nat)(b:Bool)(d:Option Nat)(o:EO)(l:List EG)(fr:XFr)(g:XH)(Φ:XFr→XH→Prop)(_:Dm (B,s,b,d,o,l,fr,g,Φ)):Prop:=gd C B x s b d o l fr g Φ
def xws(o:EO)(fr:XFr)(g:XH)(Ψ:XF→XH→Prop)(_:Dm (B,o,fr,g,Ψ)):Prop:=ws C B o fr g Ψ
def xwo(l:List EG)(fr:XFr)(g:XH)(Φ:XFr→XH→Prop)(_:Dm (B,l,Φ)):Prop:=wo C B l fr g Φ
def xwk(c:EC)(fr:XFr)(g:XH)(Φ:Ex→XFr→XH→Prop)(_:Dm (B,Φ)):Prop:=wk C B c fr g Φ
def xwd(D:Nat→Prop)(n0:Nat)(P:List Nat)(k:Nat)(os:List Nat)(l:List EG)(fr:XFr)(g:XH)(Φ:XFr→XH→Prop)(_:Dm (B,D,n0,P,l,Φ)):Prop:=wd C B D n0 P k os l fr g Φ
def xru(D:Nat→Prop)(n0:Nat)(P:List Nat)(k:Nat)(os:List Nat)(d:Option Nat)(o:EO)(l:List EG)(fr:XFr)(g:XH)(Φ:XFr→XH→Prop)(_:Dm (B,D,n0,P,k,os,d,o,l,g,Φ)):Prop:=run' C B D n0 P k os d o l fr g Φ
def xgq(D:Nat→Prop)(n0:Nat)(P:List Nat)(x:Option XF)(s:Nat)(b:Bool)(k:Nat)(os:List Nat)(d:Option Nat)(o:EO)(l:List EG)(fr:XFr)(g:XH)(Φ:XFr→XH→Prop)(_:Dm (B,D,n0,P,s,b,k,os,d,o,l,fr,g,Φ)):Prop:=gq C B D n0 P x s b k os d o l fr g Φ
def xrs(r:Option (List XF))(Ψ:XF→XH→Prop)(g:XH)(_:Dm Ψ):Prop:=match r with
 |some l=>l.all (fun x=>(fcX x).isSome)=true∧Ψ (za2 l) g
 |none=>False
end
section
variable {C:Nat→Option EF} {B:Nat→Prop} {Φ:Ex→XFr→XH→Prop} {fr:XFr} {g:XH}
theorem x_wk{c:EC}:wk C B c fr g Φ=xwk C B c fr g Φ .mk:=pe
theorem x_Lp{keep:List Nat}{c:EC}:Lp C B keep c fr g Φ=xLp C B keep c fr g Φ .mk:=pe
theorem x_CX{f:Nat}{as:List XF}{Ψ:XF→XH→Prop}:zb C B f as g Ψ=xCX C B f as g Ψ .mk:=pe
theorem x_wd{D:Nat→Prop}{n0:Nat}{P:List Nat}{k:Nat}{os:List Nat}{l:List EG}{Φ:XFr→XH→Prop}:wd C B D n0 P k os l fr g Φ=xwd C B D n0 P k os l fr g Φ .mk:=pe
theorem zpb{A A2:Prop}{e:Dm (A∧A2)}:xbr true A A2 e=A:=pe
theorem zmF{A A2:Prop}{e:Dm (A∧A2)}:xbr false A A2 e=A2:=pe
theorem zrD{t:Bool}{A A2:Prop}{e:Dm (A∧A2)}:xbr (!t) A A2 e=xbr t A2 A .mk:=by cases t<;>rfl
theorem zpr{e:Dm (B,Φ)}:xwk C B .skip fr g Φ e=Φ .normal fr g:=pe
theorem zmK{l:Nat}{e:Dm (B,Φ)}:xwk C B (.label l) fr g Φ e=Φ .normal fr g:=pe
theorem zrH{l:List EG}{keep:List Nat}{e:Dm (B,Φ)}:xwk C B (.ops l keep) fr g Φ e=xwo C B l fr g (KOx keep Φ) .mk:=pe
theorem zpn{l:List EG}{keep:List Nat}{e:Dm (B,Φ)}:xwk C B (.draw l [] keep) fr g Φ e=xwo C B l fr g (KOx keep Φ) .mk:=pe
theorem zmJ{l:List EG}{p:Nat×Nat}{ps:List (Nat×Nat)}{keep:List Nat}{e:Dm (B,Φ)}:xwk C B (.draw l (p::ps) keep) fr g Φ e=xCk C B (.draw l (p::ps) keep) fr g Φ .mk:=pe
theorem zrJ{a b:EC}{e:Dm (B,Φ)}:xwk C B (.seq a b) fr g Φ e=xwk C B a fr g (Kx C B b Φ) .mk:=pe
theorem zpm{c:OD}{a b:EC}{e:Dm (B,Φ)}:xwk C B (.cond c a b) fr g Φ e=xcd C B (odA fr c) a b fr g Φ .mk:=pe
theorem zul{t:Bool}{a b:EC}{e:Dm (B,a,b,fr,g,Φ)}:xcd C B (some (.bool t)) a b fr g Φ e=xbr t (wk C B a fr g Φ) (wk C B b fr g Φ) .mk:=pe
theorem zmI{id:Nat}{b:EC}{e:Dm (B,Φ)}:xwk C B (.block id b) fr g Φ e=xwk C B b fr g (KBx id Φ) .mk:=pe
theorem zpq{keep:List Nat}{b:EC}{e:Dm (B,Φ)}:xwk C B (.loop keep b) fr g Φ e=xLp C B keep b (yS keep fr) g Φ .mk:=pe
theorem zpo{id:Nat}{keep:List Nat}{e:Dm (B,Φ)}:xwk C B (.exit id keep) fr g Φ e=Φ (.exit id) (yS keep fr) g:=pe
theorem zrI{keep:List Nat}{e:Dm (B,Φ)}:xwk C B (.ret keep) fr g Φ e=Φ .ret (yS keep fr) g:=pe
theorem zpp{l:Nat}{keep:List Nat}{e:Dm (B,Φ)}:xwk C B (.goto l keep) fr g Φ e=Φ (.goto l) (yS keep fr) g:=pe
theorem zj6{b:EC}:Kx C B b Φ .normal fr g=xwk C B b fr g Φ .mk:=pe
theorem zrK{Φ:XFr→XH→Prop}{e:Dm (B,[],Φ)}:xwo C B [] fr g Φ e=Φ fr g:=pe
theorem zuq{d:Option Nat}{o:EO}{l:List EG}{Φ:XFr→XH→Prop}{e:Dm (B,(⟨d,o,none⟩::l:List EG),Φ)}:xwo C B (⟨d,o,none⟩::l) fr g Φ e=xws C B o fr g (KPx C B l Φ fr d) .mk:=pe
theorem zur{d:Option Nat}{o:EO}{s:Nat}{b:Bool}{l:List EG}{Φ:XFr→XH→Prop}{e:Dm (B,(⟨d,o,some (s,b)⟩::l:List EG),Φ)}:xwo C B (⟨d,o,some (s,b)⟩::l) fr g Φ e=xgd C B (Zn fr s) s b d o l fr g Φ .mk:=pe
theorem zpf{t:Bool}{s:Nat}{d:Option Nat}{o:EO}{l:List EG}{Φ:XFr→XH→Prop}{e:Dm (B,s,true,d,o,l,fr,g,Φ)}:xgd C B (some (.s (.v (.bool t)))) s true d o l fr g Φ e=xbr t (xws C B o (j0 fr s true) g (KPx C B l Φ (j0 fr s true) d) .mk) (xwo C B l (jT (j0 fr s false) d (some (.tup []))) g Φ .mk) .mk:=pe
theorem zmG{t:Bool}{s:Nat}{d:Option Nat}{o:EO}{l:List EG}{Φ:XFr→XH→Prop}{e:Dm (B,s,false,d,o,l,fr,g,Φ)}:xgd C B (some (.s (.v (.bool t)))) s false d o l fr g Φ e=xbr t (xwo C B l (jT (j0 fr s true) d (some (.tup []))) g Φ .mk) (xws C B o (j0 fr s false) g (KPx C B l Φ (j0 fr s false) d) .mk) .mk:=pe
theorem zrE{b:Bool}{s:Nat}{d:Option Nat}{o:EO}{l:List EG}{Φ:XFr→XH→Prop}{e:Dm (B,s,b,d,o,l,fr,g,Φ)}:xgd C B (some (.tup [])) s b d o l fr g Φ e=xwo C B l (jT fr d (some (.tup []))) g Φ .mk:=pe
theorem zrB{l:List EG}{Φ:XFr→XH→Prop}{d:Option Nat}{v:XF}:KPx C B l Φ fr d v g=xwo C B l (jT fr d (some v)) g Φ .mk:=pe
theorem zpk{t neq:Bool}{Ψ:XF→XH→Prop}{e:Dm (g,Ψ)}:xnq (some (some t)) neq g Ψ e=Ψ (.s (.v (.bool (if neq then !t else t)))) g:=pe
theorem zpj{neq:Bool}{Ψ:XF→XH→Prop}{e:Dm (g,Ψ)}:xnq (some none) neq g Ψ e=xan (Ψ (.s (.v (.bool true))) g) (Ψ (.s (.v (.bool false))) g) .mk:=pe
theorem zpi{v:XF}{Ψ:XF→XH→Prop}{e:Dm Ψ}:xmx (some (v,g)) Ψ e=Ψ v g:=pe
theorem zph{Ψ:XF→XH→Prop}{e:Dm Ψ}:xmx none Ψ e=False:=pe
theorem zr6{x0:OD}{Ψ:XF→XH→Prop}{e:Dm (B,((.mov x0):EO),fr,g,Ψ)}:xws C B (.mov x0) fr g Ψ e=xmx (opX fr g (.mov x0)) Ψ .mk:=pe
theorem zpD{x0:OD}{Ψ:XF→XH→Prop}{e:Dm (B,((.nilc x0):EO),fr,g,Ψ)}:xws C B (.nilc x0) fr g Ψ e=xmx (opX fr g (.nilc x0)) Ψ .mk:=pe
theorem zpE{x0:OD}{Ψ:XF→XH→Prop}{e:Dm (B,((.nilf x0):EO),fr,g,Ψ)}:xws C B (.nilf x0) fr g Ψ e=xmx (opX fr g (.nilf x0)) Ψ .mk:=pe
theorem zpz{x0:Bool}{x1:Nat}{x2:OD}{Ψ:XF→XH→Prop}{e:Dm (B,((.load x0 x1 x2):EO),fr,g,Ψ)}:xws C B (.load x0 x1 x2) fr g Ψ e=xmx (opX fr g (.load x0 x1 x2)) Ψ .mk:=pe
theorem zmN{x0:Nat}{x1:OD}{x2:OD}{Ψ:XF→XH→Prop}{e:Dm (B,((.store x0 x1 x2):EO),fr,g,Ψ)}:xws C B (.store x0 x1 x2) fr g Ψ e=((∀i,wrX fr g (.store x0 x1 x2)=some i→B i)∧xmx (opX fr g (.store x0 x1 x2)) Ψ .mk):=pe
theorem zr7{x0:Nat}{x1:Nat}{x2:OD}{Ψ:XF→XH→Prop}{e:Dm (B,((.new x0 x1 x2):EO),fr,g,Ψ)}:xws C B (.new x0 x1 x2) fr g Ψ e=xmx (opX fr g (.new x0 x1 x2)) Ψ .mk:=pe
theorem zmL{x0:List SV}{x1:List (Nat×Nat×OD)}{Ψ:XF→XH→Prop}{e:Dm (B,((.build x0 x1):EO),fr,g,Ψ)}:xws C B (.build x0 x1) fr g Ψ e=xmx (opX fr g (.build x0 x1)) Ψ .mk:=pe
theorem zrO{x0:Nat}{x1:Nat}{x2:List SV}{x3:List (Nat×Nat×OD)}{Ψ:XF→XH→Prop}{e:Dm (B,((.bsl x0 x1 x2 x3):EO),fr,g,Ψ)}:xws C B (.bsl x0 x1 x2 x3) fr g Ψ e=xmx (opX fr g (.bsl x0 x1 x2 x3)) Ψ .mk:=pe
theorem zrN{x0:BinOp}{x1:OD}{x2:OD}{Ψ:XF→XH→Prop}{e:Dm (B,((.bin x0 x1 x2):EO),fr,g,Ψ)}:xws C B (.bin x0 x1 x2) fr g Ψ e=xmx (opX fr g (.bin x0 x1 x2)) Ψ .mk:=pe
theorem zrR{x0:Bool}{x1:OD}{x2:OD}{Ψ:XF→XH→Prop}{e:Dm (B,((.eqb x0 x1 x2):EO),fr,g,Ψ)}:xws C B (.eqb x0 x1 x2) fr g Ψ e=xmx (opX fr g (.eqb x0 x1 x2)) Ψ .mk:=pe
theorem zrT{x0:Bool}{x1:OD}{x2:OD}{Ψ:XF→XH→Prop}{e:Dm (B,((.eqp x0 x1 x2):EO),fr,g,Ψ)}:xws C B (.eqp x0 x1 x2) fr g Ψ e=xmx (opX fr g (.eqp x0 x1 x2)) Ψ .mk:=pe
theorem zrS{neq:Bool}{x:OD}{Ψ:XF→XH→Prop}{e:Dm (B,((.eqn neq x (.c (.s .nils))):EO),fr,g,Ψ)}:xws C B (.eqn neq x (.c (.s .nils))) fr g Ψ e=xnq ((odX fr x).bind (Ja g)) neq g Ψ .mk:=pe
theorem zrU{x0:Bool}{x1:List (Nat×Nat)}{x2:OD}{x3:OD}{Ψ:XF→XH→Prop}{e:Dm (B,((.eqs x0 x1 x2 x3):EO),fr,g,Ψ)}:xws C B (.eqs x0 x1 x2 x3) fr g Ψ e=xmx (opX fr g (.eqs x0 x1 x2 x3)) Ψ .mk:=pe
theorem zuw{x0:UnOp}{x1:OD}{Ψ:XF→XH→Prop}{e:Dm (B,((.un x0 x1):EO),fr,g,Ψ)}:xws C B (.un x0 x1) fr g Ψ e=xmx (opX fr g (.un x0 x1)) Ψ .mk:=pe
theorem zsc{x0:IntKind}{x1:OD}{Ψ:XF→XH→Prop}{e:Dm (B,((.toi x0 x1):EO),fr,g,Ψ)}:xws C B (.toi x0 x1) fr g Ψ e=xmx (opX fr g (.toi x0 x1)) Ψ .mk:=pe
theorem zpy{x0:FloatKind}{x1:OD}{Ψ:XF→XH→Prop}{e:Dm (B,((.itof x0 x1):EO),fr,g,Ψ)}:xws C B (.itof x0 x1) fr g Ψ e=xmx (opX fr g (.itof x0 x1)) Ψ .mk:=pe
theorem zpx{x0:IntKind}{x1:OD}{Ψ:XF→XH→Prop}{e:Dm (B,((.ftoi x0 x1):EO),fr,g,Ψ)}:xws C B (.ftoi x0 x1) fr g Ψ e=xmx (opX fr g (.ftoi x0 x1)) Ψ .mk:=pe
theorem zrM{x0:Nat}{x1:OD}{Ψ:XF→XH→Prop}{e:Dm (B,((.b2s x0 x1):EO),fr,g,Ψ)}:xws C B (.b2s x0 x1) fr g Ψ e=xmx (opX fr g (.b2s x0 x1)) Ψ .mk:=pe
theorem zr2{x0:Nat}{x1:List OD}{x2:List OD}{Ψ:XF→XH→Prop}{e:Dm (B,((.mkf x0 x1 x2):EO),fr,g,Ψ)}:xws C B (.mkf x0 x1 x2) fr g Ψ e=xmx (opX fr g (.mkf x0 x1 x2)) Ψ .mk:=pe
theorem zr3{x0:Nat}{x1:OD}{Ψ:XF→XH→Prop}{e:Dm (B,((.mki x0 x1):EO),fr,g,Ψ)}:xws C B (.mki x0 x1) fr g Ψ e=xmx (opX fr g (.mki x0 x1)) Ψ .mk:=pe
theorem zr5{x0:Nat}{x1:Nat}{x2:List SV}{x3:OD}{Ψ:XF→XH→Prop}{e:Dm (B,((.mks x0 x1 x2 x3):EO),fr,g,Ψ)}:xws C B (.mks x0 x1 x2 x3) fr g Ψ e=xmx (opX fr g (.mks x0 x1 x2 x3)) Ψ .mk:=pe
theorem zsb{x0:Nat}{x1:Nat}{x2:OD}{x3:Option OD}{x4:Option OD}{Ψ:XF→XH→Prop}{e:Dm (B,((.sli x0 x1 x2 x3 x4):EO),fr,g,Ψ)}:xws C B (.sli x0 x1 x2 x3 x4) fr g Ψ e=xmx (opX fr g (.sli x0 x1 x2 x3 x4)) Ψ .mk:=pe
theorem zpH{x0:OD}{Ψ:XF→XH→Prop}{e:Dm (B,((.sli0 x0):EO),fr,g,Ψ)}:xws C B (.sli0 x0) fr g Ψ e=xmx (opX fr g (.sli0 x0)) Ψ .mk:=pe
theorem zpI{x0:OD}{x1:Option OD}{x2:Option OD}{Ψ:XF→XH→Prop}{e:Dm (B,((.subs x0 x1 x2):EO),fr,g,Ψ)}:xws C B (.subs x0 x1 x2) fr g Ψ e=xmx (opX fr g (.subs x0 x1 x2)) Ψ .mk:=pe
theorem zrW{x0:Nat}{x1:OD}{Ψ:XF→XH→Prop}{e:Dm (B,((.fad x0 x1):EO),fr,g,Ψ)}:xws C B (.fad x0 x1) fr g Ψ e=xmx (opX fr g (.fad x0 x1)) Ψ .mk:=pe
theorem zrX{x0:Bool}{x1:Nat}{x2:Nat}{x3:OD}{Ψ:XF→XH→Prop}{e:Dm (B,((.fld x0 x1 x2 x3):EO),fr,g,Ψ)}:xws C B (.fld x0 x1 x2 x3) fr g Ψ e=xmx (opX fr g (.fld x0 x1 x2 x3)) Ψ .mk:=pe
theorem zrZ{x0:Nat}{x1:Nat}{x2:OD}{x3:OD}{Ψ:XF→XH→Prop}{e:Dm (B,((.iad x0 x1 x2 x3):EO),fr,g,Ψ)}:xws C B (.iad x0 x1 x2 x3) fr g Ψ e=xmx (opX fr g (.iad x0 x1 x2 x3)) Ψ .mk:=pe
theorem zr0{x0:OD}{x1:OD}{Ψ:XF→XH→Prop}{e:Dm (B,((.idx x0 x1):EO),fr,g,Ψ)}:xws C B (.idx x0 x1) fr g Ψ e=xmx (opX fr g (.idx x0 x1)) Ψ .mk:=pe
theorem zrV{x0:OD}{x1:Nat}{Ψ:XF→XH→Prop}{e:Dm (B,((.ext x0 x1):EO),fr,g,Ψ)}:xws C B (.ext x0 x1) fr g Ψ e=xmx (opX fr g (.ext x0 x1)) Ψ .mk:=pe
theorem zr1{x0:OD}{Ψ:XF→XH→Prop}{e:Dm (B,((.len x0):EO),fr,g,Ψ)}:xws C B (.len x0) fr g Ψ e=xmx (opX fr g (.len x0)) Ψ .mk:=pe
theorem zpG{x0:OD}{Ψ:XF→XH→Prop}{e:Dm (B,((.slen x0):EO),fr,g,Ψ)}:xws C B (.slen x0) fr g Ψ e=xmx (opX fr g (.slen x0)) Ψ .mk:=pe
theorem zrL{x0:Nat}{x1:Nat}{x2:Nat}{x3:OD}{x4:OD}{Ψ:XF→XH→Prop}{e:Dm (B,((.app x0 x1 x2 x3 x4):EO),fr,g,Ψ)}:xws C B (.app x0 x1 x2 x3 x4) fr g Ψ e=((∀i,wrX fr g (.app x0 x1 x2 x3 x4)=some i→B i)∧xmx (opX fr g (.app x0 x1 x2 x3 x4)) Ψ .mk):=pe
theorem zps{x0:Nat}{x1:Nat}{x2:OD}{x3:OD}{Ψ:XF→XH→Prop}{e:Dm (B,((.apps x0 x1 x2 x3):EO),fr,g,Ψ)}:xws C B (.apps x0 x1 x2 x3) fr g Ψ e=((∀i,wrX fr g (.apps x0 x1 x2 x3)=some i→B i)∧xmx (opX fr g (.apps x0 x1 x2 x3)) Ψ .mk):=pe
theorem zpt{x0:Nat}{x1:Nat}{x2:List SV}{x3:OD}{x4:OD}{Ψ:XF→XH→Prop}{e:Dm (B,((.appz x0 x1 x2 x3 x4):EO),fr,g,Ψ)}:xws C B (.appz x0 x1 x2 x3 x4) fr g Ψ e=xmx (opX fr g (.appz x0 x1 x2 x3 x4)) Ψ .mk:=pe
theorem zrQ{x0:Nat}{x1:Nat}{x2:OD}{x3:OD}{Ψ:XF→XH→Prop}{e:Dm (B,((.cut x0 x1 x2 x3):EO),fr,g,Ψ)}:xws C B (.cut x0 x1 x2 x3) fr g Ψ e=((∀i,wrX fr g (.cut x0 x1 x2 x3)=some i→B i)∧xmx (opX fr g (.cut x0 x1 x2 x3)) Ψ .mk):=pe
theorem zrY{x0:Nat}{x1:Nat}{x2:OD}{x3:OD}{Ψ:XF→XH→Prop}{e:Dm (B,((.iaa x0 x1 x2 x3):EO),fr,g,Ψ)}:xws C B (.iaa x0 x1 x2 x3) fr g Ψ e=xmx (opX fr g (.iaa x0 x1 x2 x3)) Ψ .mk:=pe
theorem zpv{x0:Nat}{x1:Nat}{x2:OD}{x3:OD}{Ψ:XF→XH→Prop}{e:Dm (B,((.copy x0 x1 x2 x3):EO),fr,g,Ψ)}:xws C B (.copy x0 x1 x2 x3) fr g Ψ e=((∀i,wrX fr g (.copy x0 x1 x2 x3)=some i→B i)∧xmx (opX fr g (.copy x0 x1 x2 x3)) Ψ .mk):=pe
theorem zrP{x0:Nat}{x1:List SV}{x2:OD}{Ψ:XF→XH→Prop}{e:Dm (B,((.clr x0 x1 x2):EO),fr,g,Ψ)}:xws C B (.clr x0 x1 x2) fr g Ψ e=((∀i,wrX fr g (.clr x0 x1 x2)=some i→B i)∧xmx (opX fr g (.clr x0 x1 x2)) Ψ .mk):=pe
theorem zut{x0:OD}{x1:List OD}{Ψ:XF→XH→Prop}{e:Dm (B,((.mn x0 x1):EO),fr,g,Ψ)}:xws C B (.mn x0 x1) fr g Ψ e=xmx (opX fr g (.mn x0 x1)) Ψ .mk:=pe
theorem zuu{x0:OD}{x1:List OD}{Ψ:XF→XH→Prop}{e:Dm (B,((.mx x0 x1):EO),fr,g,Ψ)}:xws C B (.mx x0 x1) fr g Ψ e=xmx (opX fr g (.mx x0 x1)) Ψ .mk:=pe
theorem zuv{x0:OD}{Ψ:XF→XH→Prop}{e:Dm (B,((.re x0):EO),fr,g,Ψ)}:xws C B (.re x0) fr g Ψ e=xmx (opX fr g (.re x0)) Ψ .mk:=pe
theorem zus{x0:OD}{Ψ:XF→XH→Prop}{e:Dm (B,((.im x0):EO),fr,g,Ψ)}:xws C B (.im x0) fr g Ψ e=xmx (opX fr g (.im x0)) Ψ .mk:=pe
theorem zpw{x0:OD}{x1:OD}{Ψ:XF→XH→Prop}{e:Dm (B,((.cplx x0 x1):EO),fr,g,Ψ)}:xws C B (.cplx x0 x1) fr g Ψ e=xmx (opX fr g (.cplx x0 x1)) Ψ .mk:=pe
theorem zr9{x0:OD}{Ψ:XF→XH→Prop}{e:Dm (B,((.rng x0):EO),fr,g,Ψ)}:xws C B (.rng x0) fr g Ψ e=xmx (opX fr g (.rng x0)) Ψ .mk:=pe
theorem zr8{x0:OD}{Ψ:XF→XH→Prop}{e:Dm (B,((.nxt x0):EO),fr,g,Ψ)}:xws C B (.nxt x0) fr g Ψ e=xmx (opX fr g (.nxt x0)) Ψ .mk:=pe
theorem zr4{Ψ:XF→XH→Prop}{e:Dm (B,(.mkm:EO),fr,g,Ψ)}:xws C B .mkm fr g Ψ e=xmx (opX fr g .mkm) Ψ .mk:=pe
theorem zpC{x0:Bool}{x1:OD}{x2:OD}{x3:OD}{Ψ:XF→XH→Prop}{e:Dm (B,((.mput x0 x1 x2 x3):EO),fr,g,Ψ)}:xws C B (.mput x0 x1 x2 x3) fr g Ψ e=xmx (opX fr g (.mput x0 x1 x2 x3)) Ψ .mk:=pe
theorem zpA{x0:Bool}{x1:Bool}{x2:SV}{x3:OD}{x4:OD}{Ψ:XF→XH→Prop}{e:Dm (B,((.mget x0 x1 x2 x3 x4):EO),fr,g,Ψ)}:xws C B (.mget x0 x1 x2 x3 x4) fr g Ψ e=xmx (opX fr g (.mget x0 x1 x2 x3 x4)) Ψ .mk:=pe
theorem zpB{x0:OD}{Ψ:XF→XH→Prop}{e:Dm (B,((.mlen x0):EO),fr,g,Ψ)}:xws C B (.mlen x0) fr g Ψ e=xmx (opX fr g (.mlen x0)) Ψ .mk:=pe
theorem zsa{x0:Nat}{x1:OD}{Ψ:XF→XH→Prop}{e:Dm (B,((.s2b x0 x1):EO),fr,g,Ψ)}:xws C B (.s2b x0 x1) fr g Ψ e=xmx (opX fr g (.s2b x0 x1)) Ψ .mk:=pe
theorem zpu{f:Nat}{l:List OD}{Ψ:XF→XH→Prop}{e:Dm (B,((.call f l):EO),fr,g,Ψ)}:xws C B (.call f l) fr g Ψ e=xca C B f (zdW fr l) g Ψ .mk:=pe
theorem zmM{x:OD}{l:List OD}{Ψ:XF→XH→Prop}{e:Dm (B,((.callv x l):EO),fr,g,Ψ)}:xws C B (.callv x l) fr g Ψ e=xcv C B (odX fr x) (zdW fr l) g Ψ .mk:=pe
theorem zpF{c a b:OD}{Ψ:XF→XH→Prop}{e:Dm (B,((.pick c a b):EO),fr,g,Ψ)}:xws C B (.pick c a b) fr g Ψ e=xpk (odA fr c) (odX fr a) (odX fr b) g Ψ .mk:=pe
theorem zuk{f:Nat}{as:List XF}{Ψ:XF→XH→Prop}{e:Dm (B,g,Ψ)}:xca C B f (some as) g Ψ e=xCX C B f as g Ψ .mk:=pe
theorem zpe{f:Nat}{as:List XF}{Ψ:XF→XH→Prop}{e:Dm (B,g,Ψ)}:xcv C B (some (.s (.v (.fn f)))) (some as) g Ψ e=xCX C B f as g Ψ .mk:=pe
theorem zpd{i:Nat}{as:List XF}{Ψ:XF→XH→Prop}{e:Dm (B,g,Ψ)}:xcv C B (some (.s (.cl i))) (some as) g Ψ e=xcl C B g[i]? as g Ψ .mk:=pe
theorem zpc{f:Nat}{first as caps:List XF}{Ψ:XF→XH→Prop}{e:Dm (B,as,g,Ψ)}:xcl C B (some (.clo f first caps)) as g Ψ e=xCX C B f (first++as++caps) g Ψ .mk:=pe
theorem zum{t:Bool}{x y:XF}{Ψ:XF→XH→Prop}{e:Dm (g,Ψ)}:xpk (some (.bool t)) (some x) (some y) g Ψ e=xbr t (Ψ x g) (Ψ y g) .mk:=pe
end
section
variable {C:Nat→Option EF} {B D:Nat→Prop} {n0:Nat} {P:List Nat} {k:Nat} {os:List Nat} {d:Option Nat} {o:EO} {l:List EG} {fr:XFr} {g:XH} {Φ:XFr→XH→Prop}
theorem zrG{e:Dm (B,D,n0,P,([]:List EG),Φ)}:xwd C B D n0 P k os [] fr g Φ e=Φ fr g:=pe
theorem zuo{e:Dm (B,D,n0,P,(⟨d,o,none⟩::l:List EG),Φ)}:xwd C B D n0 P k os (⟨d,o,none⟩::l) fr g Φ e=xru C B D n0 P k os d o l fr g Φ .mk:=pe
theorem zup{s:Nat}{b:Bool}{e:Dm (B,D,n0,P,(⟨d,o,some (s,b)⟩::l:List EG),Φ)}:xwd C B D n0 P k os (⟨d,o,some (s,b)⟩::l) fr g Φ e=xgq C B D n0 P (Zn fr s) s b k os d o l fr g Φ .mk:=pe
theorem zpg{t:Bool}{s:Nat}{e:Dm (B,D,n0,P,s,true,k,os,d,o,l,fr,g,Φ)}:xgq C B D n0 P (some (.s (.v (.bool t)))) s true k os d o l fr g Φ e=xbr t (xru C B D n0 P k os d o l (j0 fr s true) g Φ .mk) (xwd C B D n0 P (k+1) (nxO os d true) l (jT (j0 fr s false) d (some (.tup []))) g Φ .mk) .mk:=pe
theorem zmH{t:Bool}{s:Nat}{e:Dm (B,D,n0,P,s,false,k,os,d,o,l,fr,g,Φ)}:xgq C B D n0 P (some (.s (.v (.bool t)))) s false k os d o l fr g Φ e=xbr t (xwd C B D n0 P (k+1) (nxO os d true) l (jT (j0 fr s true) d (some (.tup []))) g Φ .mk) (xru C B D n0 P k os d o l (j0 fr s false) g Φ .mk) .mk:=pe
theorem zrF{s:Nat}{b:Bool}{e:Dm (B,D,n0,P,s,b,k,os,d,o,l,fr,g,Φ)}:xgq C B D n0 P (some (.tup [])) s b k os d o l fr g Φ e=xwd C B D n0 P (k+1) (nxO os d true) l (jT fr d (some (.tup []))) g Φ .mk:=pe
theorem zun{e:Dm (B,D,n0,P,k,os,d,o,l,g,Φ)}:xru C B D n0 P k os d o l fr g Φ e=((P.contains k=true→isA o=true∧JK (zQ o) os=true)∧(isL o=true→zlU D os fr o)∧xws C (fun i=>B i∧(n0≤i∨D i)) o fr g (KQx C B D n0 P k os o l Φ fr d) .mk):=pe
theorem zrC{v:XF}:KQx C B D n0 P k os o l Φ fr d v g=xwd C B D n0 P (k+1) (nxO os d (zgz os o v)) l (jT fr d (some v)) g Φ .mk:=pe
end
section
variable {res:List ER} {Ψ:XF→XH→Prop} {fr:XFr} {g:XH}
theorem zpl{l:List XF}{e:Dm Ψ}:xrs (some l) Ψ g e=(l.all (fun x=>(fcX x).isSome)=true∧Ψ (za2 l) g):=pe
theorem zpa:KRx res Ψ .ret fr g=xrs (Q3 fr g res) Ψ g .mk:=propext zpR
theorem ziG:KRx res Ψ .normal fr g=xrs (Q3 fr g res) Ψ g .mk:=propext ziL
end
theorem zmE{A A2:Prop}{e:Dm (A∧A2)}(a:A)(b:A2):xan A A2 e:=⟨a,b⟩
attribute [simp ↓] x_wk x_Lp x_CX x_wd zj6 zrB zrC zpa ziG zsA zpU zpV ziJ zpN zmO zmP ziK zpQ zmQ zmR zsw
attribute [simp] zpb zmF zrD zpr zmK zrH zpn zmJ zrJ zpm zul zmI zpq zpo zrI zpp zrK zuq zur zpf zmG zrE zpk zpj zpi zph zr6 zpD zpE zpz zmN zr7 zmL zrO zrN zrR zrT zrS zrU zuw zsc zpy zpx zrM zr2 zr3 zr5 zsb zpH zpI zrW zrX zrZ zr0 zrV zr1 zpG zrL zps zpt zrQ zrY zpv zrP zut zuu zuv zus zpw zr9 zr8 zr4 zpC zpA zpB zsa zpu zmM zpF zuk zpe zpd zpc zum zrG zuo zup zpg zmH zrF zun zpl
section
theorem YG{g r:XH}{x:XO}:(g++x::r)[g.length]? =some x:=by rw[zuN (zuL _),zvG];rfl
theorem zaQ{g r:XH}{k:Nat}:(g++r)[g.length+k]? =r[k]? :=by rw[zuN (by omega)];congr 1;omega
theorem zq{g r:XH}{i:Nat}(hi:i<g.length):(g++r)[i]? =g[i]? :=zuK hi
theorem zk1{g r:XH}{i:Nat}{x:XO}(hi:i<g.length):(g++r).set i x=g.set i x++r:=zxA _ _ hi
theorem zgP{g r:XH}{x y:XO}:(g++x::r).set g.length y=g++y::r:=by rw[zvO _ _ (zuL _),zvG];rfl
theorem zeg{g r:XH}{k:Nat}{y:XO}:(g++r).set (g.length+k) y=g++r.set k y:=by rw[zvO _ _ (by omega)];congr 2;omega
theorem zH{g:XH}{i j:Nat}{x:XO}(hne:i≠j):(g.set i x)[j]? =g[j]? :=zuR hne
theorem yo{g:XH}{i:Nat}{x:XO}(hi:i<g.length):(g.set i x)[i]? =some x:=zu1 hi
attribute [simp] YG zaQ zq zk1 zgP zeg
section
variable {g:XH} {t z t' z' n i w o m y:Nat} {k:Int} {cs new:List XV} {x:XF}
theorem zlW:Y6 g (.s (.v .nils))=some 0:=rfl
theorem zqF:Y6 g (.s .nl)=some 0:=rfl
theorem znW:Y6 g (.s (.lst t z n cs))=some n:=rfl
theorem zqG:Y6 g (.s (.sl i w o n))=some n:=rfl
theorem zqz:jX g t z k (.s (.sl i w o n))=match zL g i w with
 |some (t',z',_)=>if t'=t∧z'=z then if 0≤k then if k<n then some (.ptr i w ((o+k.toNat)*z)) else none else none else none
 |none=>none:=rfl
theorem znH:jX g t z k (.s (.lst t' z' n cs))=if t'=t∧z'=z then if 0≤k then if k<n then some (.lp cs (k.toNat*z)) else none else none else none:=rfl
theorem zq7:rdX g (.s (.ptr i w o))=match zL g i w with
 |some (_,_,cs)=>some (cs,o)
 |none=>none:=rfl
theorem ztW:rdX g (.s (.lp cs o))=some (cs,o):=rfl
theorem zl2:Ja g (.s (.v .nils))=some (some true):=rfl
theorem zoh:Ja g (.s (.lst t z n cs))=if n=0 then some none else some (some false):=rfl
theorem zqY:Ja g (.s .nl)=some none:=rfl
theorem zkH:Ja g (.s (.sl i w o n))=match zL g i w with
 |some (_,_,cs)=>if cs.length=0 then some none else some (some false)
 |none=>none:=rfl
theorem znn:elX g t z (.s (.v .nils))=some (0,[]):=rfl
theorem zs1:elX g t z (.s .nl)=some (0,[]):=rfl
theorem zqh:elX g t z (.s (.lst t' z' n cs))=if n=0 then some (0,[]) else if t'=t∧z'=z then some (n,cs) else none:=rfl
theorem zs2:elX g t z (.s (.sl i w o n))=match zL g i w with
 |some (t',z',cs)=>if t'=t∧z'=z then if(o+n)*z≤cs.length then some (n,zbr cs o n z) else none else none
 |none=>none:=rfl
theorem zm2{i w o m:Nat}:zco g t z y (.s (.sl i w o m)) 0 new=if Yj g i w then some (.s (.sl i w o m),g) else none:=rfl
theorem zll{n:Nat}(h:n≠0):zco g t z y (.s (.v .nils)) n new=if new.length=0 then none else if n*y≤140737488355328 then some (.s (.sl g.length 0 0 n),g++[.own 0 t z new]) else none:=by unfold zco;rw[zuQ h]
theorem zp0{n:Nat}(h:n≠0):zco g t z y (.s .nl) n new=if new.length=0 then none else if n*y≤140737488355328 then some (.s (.sl g.length 0 0 n),g++[.own 0 t z new]) else none:=by unfold zco;rw[zuQ h]
theorem zfH{n:Nat}(h:n≠0):zco g t z y (.s (.sl i w o m)) n new=if new.length=0 then none else match zL g i w with
 |some (t',z',cs)=>if t'=t∧z'=z∧(o+m)*z≤cs.length∧(m+n)*y≤140737488355328 then some (.s (.sl i (w+1) 0 (m+n)),g.set i (.own (w+1) t z (zbr cs o m z++new))) else none
 |none=>none:=by unfold zco;rw[zuQ h];rfl
end
attribute [simp] isA isL JK zlU ZZ slX zgz znM nxO zlW zqF znW zqG zqz znH zq7 ztW ldC zbr zl2 zoh zqY zkH znn zs1 zqh zs2 zQ odT zaZ zh4 Qf
attribute [simp] zp5 zm6 zsJ j0 isW opX odX odA zdW zl5 Zn jT yS cX unV fcX zdm qC zL Yj wrX zm2 zll zp0 zfH zaT zcs Q3 za2 setX
attribute [simp] lvF ZP lvV zw qn
attribute [-simp] List.length_flatMap getElem?_pos
end
section
variable {α:Type} {enc:α→List XV} {z:Nat}
theorem zg(he:∀a,(enc a).length=z):∀(l:List α),(l.flatMap enc).length=l.length*z
 |[]=>by simp
 |a::l=>by rw[zvN,zuM,he,zg he l,zvr,zwP];omega
theorem zds(he:∀a,(enc a).length=z):∀(l:List α) (k:Nat) (hk:k<l.length),((l.flatMap enc).drop (k*z)).take z=enc l[k]
 |a::l,0,_=>by
  rw[zvP,zu8,zvN];show List.take z (enc a++_)=enc a;rw[←he a,zv8];rfl
 |a::l,k+1,hk=>by rw[zvN,show(k+1)*z=(enc a).length+k*z by rw[he,zwP];omega,List.drop_append,zwL (by omega),zwj,zvI];exact zds he l k (by simpa using hk)
theorem atX(he:∀a,(enc a).length=z){l:List α}{k:Nat}(hk:k<l.length):k*z+z≤(l.flatMap enc).length∧((l.flatMap enc).drop (k*z)).take z=enc l[k]∧∀c,c<z→(l.flatMap enc)[k*z+c]? =(enc l[k])[c]? :=by have h0:(k+1)*z≤l.length*z:=zvf _ hk;rw[zwP] at h0;refine⟨by rw[zg he];exact h0,zds he l k hk,fun c hc=> ?_⟩;rw[←zds he l k hk,zvh,zuO hc,zvH]
theorem qh{m:Nat}:∀{a b:List XV},zw m (a++b)↔zw m a∧zw m b
 |[],b=>by simp[zw]
 |x::a,b=>by simp[zw,qh (a:=a),and_assoc]
theorem zZ{m:Nat}(h:∀a,zw m (enc a)):∀(l:List α),zw m (l.flatMap enc)
 |[]=>by simp[zw]
 |a::l=>by rw[zvN,qh];exact⟨h a,zZ h l⟩
end
theorem RFr.lt{R:XE}:∀{a:XFr} {b:Fr},RFr R a b→qn R.g.length a
 |[],[],_=>by simp[qn]
 |(n,some v)::r,(n',some v')::s,h=>by
  simp only[RFr] at h;simp only[qn];exact⟨RF.lt _ _ h.2.1,RFr.lt h.2.2⟩
 |(n,none)::r,(n',none)::s,h=>by
  simp only[RFr] at h;simp only[qn];exact RFr.lt h.2
 |[],_::_,h=>by simp[RFr] at h
 |(_,some _)::_,[],h=>by simp[RFr] at h
 |(_,none)::_,[],h=>by simp[RFr] at h
 |(_,some _)::_,(_,none)::_,h=>by simp[RFr] at h
 |(_,none)::_,(_,some _)::_,h=>by simp[RFr] at h
theorem Lp.inv'{C:Nat→Option EF}{B:Nat→Prop}{keep:List Nat}{b:EC}{Φ:Ex→XFr→XH→Prop}(hk:keep.Nodup)(I:Nat→XFr→XH→Prop)(hs:∀n fr g,I n fr g→qn g.length fr→fr.map (·.1)=keep∧wk C B b fr g (KLx (fun fr' g'=>∃m,m<n∧Cut g fr' g' (I m)) keep Φ)):∀n fr g,I n fr g→Lp C B keep b fr g Φ:=by
 intro n fr g hI R fr1 hg H h;refine Lp.inv hk (fun n fr g=>I n fr g∧qn g.length fr) (fun n fr g hI=> ?_) n fr g ⟨hI,hg▸h.lt⟩ R fr1 hg H h;obtain⟨h1,h2⟩:=hs n fr g hI.1 hI.2;refine⟨h1,?_⟩;have:∀(fr':XFr) (g':XH),(∃m,m<n∧Cut g fr' g' (I m))→∃m,m<n∧Cut g fr' g' fun fr g=>I m fr g∧qn g.length fr:=by rintro fr' g' ⟨m,hm,g2,J,c1,c2,c3,c4,c5⟩;exact⟨m,hm,g2,J,c1,c2,c3,c4,c5,c3⟩
 exact ZA h2 fun x fr' g' h=>by
  cases x with
  |normal=>exact this _ _ h
  |exit id=>exact h
  |goto l=>exact h
  |ret=>exact h
structure Nxt(g:XH)(F:XFr)(G:XH)(fr:XFr)(g':XH):Prop where
 fr:fr=F
 heap:∃J,g'=G++J
 le:g.length≤G.length
 lt:qn G.length F
 old:Old G.length g G
theorem Nxt.cut{g:XH}{F:XFr}{G:XH}{fr:XFr}{g':XH}(n:Nxt g F G fr g'){P:XFr→XH→Prop}(h:P F G):Cut g fr g' P:=by obtain⟨rfl,⟨J,rfl⟩,h1,h2,h3⟩:=n;exact⟨G,J,rfl,h1,h2,h3,h⟩
theorem Nxt.app{g:XH}{F fr:XFr}{J:XH}(h:fr=F)(hl:qn g.length F):Nxt g F g fr (g++J):=⟨h,⟨J,rfl⟩,zuL _,hl,Old.refl _ _⟩
theorem Nxt.self{g:XH}{F fr:XFr}(h:fr=F)(hl:qn g.length F):Nxt g F g fr g:=⟨h,⟨[],by simp⟩,zuL _,hl,Old.refl _ _⟩
theorem Jb{g:XH}{F fr:XFr}{J:XH}{N:XFr→XH→Prop}(hN:∀fr g',Nxt g F g fr g'→N fr g')(h:fr=F)(hl:qn g.length F):N fr (g++J):=hN _ _ (.app h hl)
theorem Lp.fold{α σ:Type}{C:Nat→Option EF}{B:Nat→Prop}{keep:List Nat}{b:EC}{Φ:Ex→XFr→XH→Prop}(l:List α)(F:Nat→σ→XFr)(G:Nat→σ→XH)(step:σ→α→σ)(s0:σ)(hk:keep.Nodup)(hF:∀k s,(F k s).map (·.1)=keep)
 (body:∀k (hk:k<l.length) (s:σ),s=(l.take k).foldl step s0→qn (G k s).length (F k s)→∀N:XFr→XH→Prop,(∀fr g',Nxt (G k s) (F (k+1) (step s l[k])) (G (k+1) (step s l[k])) fr g'→N fr g')→wk C B b (F k s) (G k s) (KLx N keep Φ))
 (fin:∀s,s=l.foldl step s0→wk C B b (F l.length s) (G l.length s) (KLx (fun _ _=>False) keep Φ)):
 Lp C B keep b (F 0 s0) (G 0 s0) Φ:=by
 refine Lp.inv' hk (fun n fr g=>∃k s,n=l.length-k∧k≤l.length∧s=(l.take k).foldl step s0∧fr=F k s∧g=G k s) ?_ l.length _ _ ⟨0,s0,rfl,zws _,rfl,rfl,rfl⟩;rintro n fr g ⟨k,s,rfl,hkl,hs,rfl,rfl⟩ hlt;refine⟨hF k s,?_⟩;by_cases h:k<l.length
 ·refine body k h s hs hlt _ fun fr g' hn=>⟨l.length-(k+1),by omega,hn.cut ⟨k+1,_,rfl,h,?_,rfl,rfl⟩⟩
  rw[hs,zu6 h,List.foldl_append];rfl
 ·obtain rfl:k=l.length:=by omega
  rw[zve] at hs;exact ZA (fin s hs) fun x fr' g' h=>by
   cases x with
   |normal=>exact h.elim
   |exit id=>exact h
   |goto l=>exact h
   |ret=>exact h
theorem Old.loc{m:Nat}{g L L':XH}(h:∀o∈L',lvO m o):Old m (g++L) (g++L'):=fun i o hi e=>by
 by_cases hl:i<g.length
 ·rw[zuK hl] at e⊢;exact .inl e
 ·rw[zuN (by omega)] at e;exact .inr (h o (zvE e))
theorem zgx{g L L' g':XH}{F fr:XFr}{N:XFr→XH→Prop}(hN:∀fr g',Nxt (g++L) F (g++L') fr g'→N fr g')(J:XH)(e:g'=g++(L'++J))(h:fr=F)(hl:qn (g++L').length F)(hlen:L.length≤L'.length)(ho:∀o∈L',lvO (g++L').length o):N fr g':=
 hN _ _ ⟨h,⟨J,by rw[e,zvc]⟩,by simp[hlen],hl,.loc ho⟩
theorem Lp.gen{σ:Type}{C:Nat→Option EF}{B:Nat→Prop}{keep:List Nat}{b:EC}{Φ:Ex→XFr→XH→Prop}(n:Nat)(F:Nat→σ→XFr)(G:Nat→σ→XH)(P:Nat→σ→Prop)(s0:σ)(hk:keep.Nodup)(hF:∀k s,(F k s).map (·.1)=keep)(p0:P 0 s0)
 (body:∀k (hk:k<n) (s:σ),P k s→qn (G k s).length (F k s)→∀N:XFr→XH→Prop,(∀s' fr g',P (k+1) s'→Nxt (G k s) (F (k+1) s') (G (k+1) s') fr g'→N fr g')→wk C B b (F k s) (G k s) (KLx N keep Φ))
 (fin:∀s,P n s→wk C B b (F n s) (G n s) (KLx (fun _ _=>False) keep Φ)):
 Lp C B keep b (F 0 s0) (G 0 s0) Φ:=by
 refine Lp.inv' hk (fun m fr g=>∃k s,m=n-k∧k≤n∧P k s∧fr=F k s∧g=G k s) ?_ n _ _ ⟨0,s0,rfl,zws _,p0,rfl,rfl⟩;rintro m fr g ⟨k,s,rfl,hkl,hs,rfl,rfl⟩ hlt;refine⟨hF k s,?_⟩;by_cases h:k<n
 ·exact body k h s hs hlt _ fun s' fr g' hp hn=>⟨n-(k+1),by omega,hn.cut ⟨k+1,s',rfl,h,hp,rfl,rfl⟩⟩
 ·obtain rfl:k=n:=by omega
  exact ZA (fin s hs) fun x fr' g' h=>by
   cases x with
   |normal=>exact h.elim
   |exit id=>exact h
   |goto l=>exact h
   |ret=>exact h
theorem zam{σ:Type}{g:XH}{F:σ→XFr}{fr:XFr}{J:XH}{P:σ→Prop}{N:XFr→XH→Prop}(s:σ)(hN:∀s' fr g',P s'→Nxt g (F s') g fr g'→N fr g')(hp:P s)(h:fr=F s)(hl:qn g.length (F s)):N fr (g++J):=hN s _ _ hp (.app h hl)
theorem qJ{σ:Type}{g:XH}{F:σ→XFr}{fr:XFr}{P:σ→Prop}{N:XFr→XH→Prop}(s:σ)(hN:∀s' fr g',P s'→Nxt g (F s') g fr g'→N fr g')(hp:P s)(h:fr=F s)(hl:qn g.length (F s)):N fr g:=hN s _ _ hp (.self h hl)
theorem FzF.lt{n0:Nat}{J:XH}:∀{a:XF},lvF n0 a→FzF n0 J [] [] a a:=by
 intro a;refine XF.rec (motive_1:=fun x=>lvF n0 x→FzF n0 J [] [] x x) (motive_2:=fun l=>ZP n0 l→FzF n0 J [] [] (.tup l) (.tup l)) ?_ ?_ ?_ ?_ ?_ a
 ·intro v h;simp only[lvF] at h;exact .s (.lt h)
 ·intro l h;simp only[lvF] at h;exact .agg (.lts h)
 ·intro l ih h;simp only[lvF] at h;exact ih h
 ·intro _;exact .nil
 ·intro x l h1 h2 h;simp only[ZP] at h;exact .cons (h1 h.1) (h2 h.2)
theorem Zv{Ψ:XF→XH→Prop}{u r:XF}{g:XH}(h:Ψ r g)(e:u=r):Ψ u g:=e▸h
theorem Pure.intro0{C:Nat→Option EF}{f:Nat}{e:EF}(hf:C f=some e){args:List XF}(hl:args.length≤e.slots){r:XF}(hr:∀m,lvF m r)(w:∀(g:XH) (Ψ:XF→XH→Prop),Ψ r g→(∀J,Ψ r (g++J))→wk C (fun i=>g.length≤i∨False) e.body (zaT 0 args) g (KRx e.res Ψ)):Pure C f args r:=
 Pure.intro hf hl fun g Ψ hJ h0=>w g Ψ (h0 r (.lt (hr _))) fun J=>hJ J r (.lt (hr _))
def GhF(m:Nat):XFr→XFr→Prop
 |[],[]=>True
 |(n,some a)::r,(n',some b)::s=>n=n'∧(a=b∨(a= .s (.v .nils)∧b= .s (.sl m 0 0 0)))∧GhF m r s
 |(n,none)::r,(n',none)::s=>n=n'∧GhF m r s
 |_,_=>False
theorem RFr.ghost{R R2:XE}{m:Nat}(h1:∀a b,lvF m a→RF R a b→RF R2 a b)(h2:∀b,RF R (.s (.v .nils)) b→RF R2 (.s (.sl m 0 0 0)) b)(hm:m=R.g.length):∀{a a2:XFr} {b:Fr},GhF m a a2→RFr R a b→RFr R2 a2 b
 |[],[],[],_,_=>by simp[RFr]
 |(n,some x)::r,(n2,some y)::s,(n3,some v)::u,k,h=>by
  simp only[GhF] at k;simp only[RFr] at h⊢;obtain⟨k1,k2,k3⟩:=k;refine⟨by rw[←k1];exact h.1,?_,RFr.ghost h1 h2 hm k3 h.2.2⟩;rcases k2 with rfl|⟨rfl,rfl⟩
  ·exact h1 _ _ (hm▸RF.lt _ _ h.2.1) h.2.1
  ·exact h2 _ h.2.1
 |(n,none)::r,(n2,none)::s,(n3,none)::u,k,h=>by
  simp only[GhF] at k;simp only[RFr] at h⊢;exact⟨by rw[←k.1];exact h.1,RFr.ghost h1 h2 hm k.2 h.2⟩
 |[],_::_,_,k,_=>by simp[GhF] at k
 |(_,some _)::_,[],_,k,_=>by simp[GhF] at k
 |(_,none)::_,[],_,k,_=>by simp[GhF] at k
 |(_,some _)::_,(_,none)::_,_,k,_=>by simp[GhF] at k
 |(_,none)::_,(_,some _)::_,_,k,_=>by simp[GhF] at k
 |[],[],_::_,_,h=>by simp[RFr] at h
 |(_,some _)::_,(_,some _)::_,[],_,h=>by simp[RFr] at h
 |(_,some _)::_,(_,some _)::_,(_,none)::_,_,h=>by simp[RFr] at h
 |(_,none)::_,(_,none)::_,[],_,h=>by simp[RFr] at h
 |(_,none)::_,(_,none)::_,(_,some _)::_,_,h=>by simp[RFr] at h
theorem Lp.ghost{C:Nat→Option EF}{B:Nat→Prop}{keep:List Nat}{b:EC}{Φ:Ex→XFr→XH→Prop}(t z:Nat){fr fr2:XFr}{g:XH}(hf:GhF g.length fr fr2)(w:Lp C B keep b fr2 (g++[.own 0 t z []]) Φ):Lp C B keep b fr g Φ:=by
 rintro R fr1 rfl H h;have hz:FzH B R.g.length [] [none] [.own 0 t z []] R.g R.g R.g:=by
  refine⟨rfl,rfl,fun i o e=> .inl ⟨e,.inl e⟩,rfl,fun j j' k e e'=> ?_,fun j o e=> ?_⟩
  ·have h1:=(zuJ.1 e).1;obtain rfl:j=0:=by simpa using h1
   simp at e
  ·have h1:=(zuJ.1 e).1;obtain rfl:j=0:=by simpa using h1
   simp only[zvt,zuE] at e;exact .inl ⟨rfl,t,z,e.symm⟩
 obtain⟨a1,a2,a3⟩:=zeL H H (Ex2.refl B R) (J:=[]) (by simp) hz;have:=w (R.done R.g.length R.g [none] [.own 0 t z []]) fr1 rfl a2 (h.ghost (fun a b hl r=>RF.done a3 a b hl r) (fun b r=>by
  have:FzF R.g.length [] [none] [.own 0 t z []] (.s (.v .nils)) (.s (.sl (R.g.length+0) 0 0 0)):= .s (.gh (j:=0) (t:=t) (z:=z) rfl rfl);exact this.sound a3 b r) rfl hf)
 exact this.mono fun _ _ _=>Pk.trans a1
def KSx(l:Nat)(P:XFr→XH→Prop)(Φ:Ex→XFr→XH→Prop):Ex→XFr→XH→Prop:=fun x fr g=>match x with
 | .goto l'=>l'=l∧P fr g
 |x=>Φ x fr g
theorem zmT{l l':Nat}{P:XFr→XH→Prop}{Φ:Ex→XFr→XH→Prop}{fr:XFr}{g:XH}:KSx l P Φ (.goto l') fr g=(l'=l∧P fr g):=pe
theorem zpT{l:Nat}{P:XFr→XH→Prop}{Φ:Ex→XFr→XH→Prop}{fr:XFr}{g:XH}:KSx l P Φ .ret fr g=Φ .ret fr g:=pe
theorem ziM{l:Nat}{P:XFr→XH→Prop}{Φ:Ex→XFr→XH→Prop}{fr:XFr}{g:XH}:KSx l P Φ .normal fr g=Φ .normal fr g:=pe
theorem zmS{l id:Nat}{P:XFr→XH→Prop}{Φ:Ex→XFr→XH→Prop}{fr:XFr}{g:XH}:KSx l P Φ (.exit id) fr g=Φ (.exit id) fr g:=pe
attribute [simp ↓] zmT zpT ziM zmS
theorem Sc.rule{C:Nat→Option EF}{B:Nat→Prop}{a r:EC}{l:Nat}{fr:XFr}{g:XH}{Φ:Ex→XFr→XH→Prop}(ha:Yt a l=false)(I:Nat→XFr→XH→Prop)(n:Nat)(F:XFr)(G:XH)(h0:wk C B a fr g (fun x fr g=>x= .normal∧fr=F∧g=G))(hI:I n F G)
 (hs:∀n fr g,I n fr g→qn g.length fr→∀P:XFr→XH→Prop,(∀m fr' g',m<n→Cut g fr' g' (I m)→P fr' g')→wk C B r fr g (KSx l P Φ)):Ck C B (.scope (.seq a (.seq (.label l) r))) fr g Φ:=by
 rintro R fr1 rfl H h;have hl:Yt (.seq a (.seq (.label l) r)) l=true:=by simp[Yt]
 have step:∀(n:Nat) (R':XE) (f:XFr) (fr1:Fr),HR R'→Ex2 B R R'→RFr R' f fr1→I n f R'.g→WPk C r fr1 R'.h (KS (.seq a (.seq (.label l) r)) (fun l' fr1 h1=>∃m,m<n∧(l'=l∧∃R' fr,R'.h=h1∧HR R'∧Ex2 B R R'∧RFr R' fr fr1∧I m fr R'.g)) (Pk B R Φ)):=by
  intro n R' f fr1 a2 a3 a4 a5;refine(Yz (hs n f R'.g a5 a4.lt (fun fr' g'=>∃m,m<n∧Cut R'.g fr' g' (I m)) fun m fr' g' hm hc=>⟨m,hm,hc⟩) R' fr1 rfl a2 a4).mono ?_;rintro x fr' h' ⟨R2,f2,rfl,b2,b3,b4,b5⟩;cases x with
  |goto l'=>
   obtain⟨rfl,m,hm,c⟩:=b5;obtain⟨R3,c1,c2,c3,c4,c5⟩:=Cut.sim a2 b2 b3 b4 c;rw[zfy,hl,zuO rfl];exact⟨m,hm,rfl,R3,f2,c1,c2,a3.trans c3,c4,c5⟩
  |exit id=>exact⟨R2,f2,rfl,b2,a3.trans b3,b4,b5⟩
  |normal=>exact⟨R2,f2,rfl,b2,a3.trans b3,b4,b5⟩
  |ret=>exact⟨R2,f2,rfl,b2,a3.trans b3,b4,b5⟩
 refine zmC (fun m l' fr1 h1=>l'=l∧∃R' fr,R'.h=h1∧HR R'∧Ex2 B R R'∧RFr R' fr fr1∧I m fr R'.g) n ?_ ?_
 ·refine wp_seq ((Yz h0 R fr1 rfl H h).mono ?_);rintro x fr' h' ⟨R',f,rfl,a2,a3,a4,rfl,rfl,a5⟩;refine wp_seq (zb0.2 ?_);exact step n R' f fr' a2 a3 a4 (a5▸hI)
 ·rintro n l' fr1 h1 ⟨rfl,R',f,rfl,a2,a3,a4,a5⟩;refine(zo2 ha).2 ((zo1 (by simp[Yt])).2 (zmB.2 ?_));exact step n R' f fr1 a2 a3 a4 a5
theorem zb.go0{C:Nat→Option EF}{B:Nat→Prop}{f:Nat}{args:List XF}{g:XH}{r:XF}{Ψ:XF→XH→Prop}(w:Cl C (fun _=>False) f args g fun u g'=>u=r∧g'=g)(h:Ψ r g):zb C B f args g Ψ:=
 zb.go w (fun _ _ h=>h.elim) (by rintro u g' ⟨rfl,rfl⟩;exact h)
def ZL{α:Type}(lt:α→α→Bool)(b:α):List α→List α
 |[]=>[b]
 |x::r=>if lt b x then b::x::r else x::ZL lt b r
def zt{α:Type}(lt:α→α→Bool):List α→List α
 |[]=>[]
 |x::r=>ZL lt x (zt lt r)
def jH{α:Type}(lt:α→α→Bool):List α→Bool
 |[]=>true
 |x::r=>(r.all fun y=>lt x y||lt y x)&&jH lt r
theorem zht{α:Type}(lt:α→α→Bool)(b:α):∀(l:List α),(ZL lt b l).length=l.length+1
 |[]=>rfl
 |x::r=>by unfold ZL;split<;>simp[zht lt b r]
theorem zJ{α:Type}(lt:α→α→Bool):∀(l:List α),(zt lt l).length=l.length
 |[]=>rfl
 |x::r=>by unfold zt;rw[zht,zJ lt r];rfl
def YN(z:Nat):Nat→List SV→List (List SV)
 |0,_=>[]
 |n+1,cs=>cs.take z::YN z n (cs.drop z)
def ltK:List Nat→List SV→List SV→Bool
 |[],_,_=>false
 |k::r,a,b=>match a[k]?,b[k]? with
  |some (.int _ x),some (.int _ y)=>decide (x<y)||(x==y&&ltK r a b)
  |some (.str x),some (.str y)=>Op.bytesLess x.toList y.toList||(x.toList==y.toList&&ltK r a b)
  |_,_=>false
def okT:List Bool→List SV→Bool
 |[],[]=>true
 |true::r,.int .i64 _::l=>okT r l
 |false::r,.str _::l=>okT r l
 |_,_=>false
def zca(t z cf:Nat)(lt:List SV→List SV→Bool)(okr:List SV→Bool):List FV→LH→Option (List FV×LH)
 |[.s v,.s (.fn f)],h=>if f=cf then match v with
  | .nils=>some ([],h)
  | .sl0 _ _ _=>some ([],h)
  | .sl i _ o n=>if n=0 then some ([],h) else match h[i]? with
    |some (.own t' vs)=>if t'=t∧(o+n)*z≤vs.length∧n<4611686018427387904 then
      if((YN z n (vs.drop (o*z))).all okr&&jH lt (YN z n (vs.drop (o*z))))=true then some ([],h.set i (.own t (qr vs (o*z) (zt lt (YN z n (vs.drop (o*z)))).flatten))) else none
     else none
    |_=>none
  |_=>none
  else none
 |_,_=>none
def JA(t z cf:Nat)(lt:List SV→List SV→Bool)(okr:List SV→Bool):EF:=⟨2,.ext 2 0 (zca t z cf lt okr),(List.range 0).map fun i=> .tmp (2+i)⟩
theorem zlG{C:Nat→Option EF}{f k:Nat}{g:List FV→LH→Option (List FV×LH)}(hf:C f=some ⟨k,.ext k 0 g,(List.range 0).map fun i=> .tmp (k+i)⟩){args:List FV}{h h':LH}(hl:args.length=k)(hg:g args h=some ([],h'))(hle:h.length≤h'.length):zy C f args h=some (.tup [],h'):=by
 refine JM hf (by simp[hl]) ?_;unfold zg9;have h1:JL (jj 0 args) 0 k=some args:=by rw[←hl];exact zeB args 0
 simp only[zC,zlF,h1,zwr,hg,zv1,if_true,hle];rfl
section
variable {α:Type} {enc:α→List SV} {z:Nat}
theorem zfk(he:∀a,(enc a).length=z):∀(l:List α) (r:List SV),YN z l.length (l.flatMap enc++r)=l.map enc
 |[],r=>rfl
 |a::l,r=>by rw[zvN,zvc,zvr,YN,zv8 (he a),List.drop_left' (he a),zfk he l r,zu2]
theorem zkv{lt:List SV→List SV→Bool}{lta:α→α→Bool}(hl:∀a b,lt (enc a) (enc b)=lta a b)(a:α):∀(l:List α),ZL lt (enc a) (l.map enc)=(ZL lta a l).map enc
 |[]=>rfl
 |x::l=>by simp only[zu2,ZL,hl,zkv hl a l];split<;>simp
theorem zeh{lt:List SV→List SV→Bool}{lta:α→α→Bool}(hl:∀a b,lt (enc a) (enc b)=lta a b):∀(l:List α),zt lt (l.map enc)=(zt lta l).map enc
 |[]=>rfl
 |x::l=>by simp only[zu2,zt,zeh hl l,zkv hl]
theorem zde{lt:List SV→List SV→Bool}{lta:α→α→Bool}(hl:∀a b,lt (enc a) (enc b)=lta a b):∀(l:List α),jH lt (l.map enc)=jH lta l
 |[]=>rfl
 |x::l=>by simp only[zu2,jH,zde hl l,List.all_map];congr 2;funext y;simp[hl]
end
theorem RVs.unv{R:XE}:∀{l m:List SV},RVs R (l.map .v) m→m=l
 |[],[],_=>rfl
 |a::l,b::m,h=>by
  simp only[zu2,RVs,RV] at h;rw[h.1.1,RVs.unv h.2]
 |[],_::_,h=>by simp[RVs] at h
 |_::_,[],h=>by simp[RVs] at h
theorem zbf{C:Nat→Option EF}{f t z cf:Nat}{lt:List SV→List SV→Bool}{okr:List SV→Bool}(hf:C f=some (JA t z cf lt okr)){α:Type}{enc:α→List SV}(he:∀a,(enc a).length=z)(hz:z≠0)(hn:∀a,∀v∈enc a,nlS v=true)(hok:∀a,okr (enc a)=true){lta:α→α→Bool}(hlt:∀a b,lt (enc a) (enc b)=lta a b)
 {g:XH} {k w o:Nat} {cs:List XV} {l:List α} (hk:g[k]? =some (.own w t z cs)) (hcs:(o+l.length)*z≤cs.length) (hcut:(cs.drop (o*z)).take (l.length*z)=(l.flatMap enc).map .v) (hd:jH lta l=true) (hlm:l.length<4611686018427387904):
 Cl C (fun x=>x=k) f [.s (.sl k w o l.length),.s (.v (.fn cf))] g fun u g'=>u= .tup []∧g'=g.set k (.own w t z (setX cs (o*z) (((zt lta l).flatMap enc).map .v))):=by
 rintro R args1 rfl H ra;have hc:zL R.g k w=some (t,z,cs):=by simp[zL,hk]
 obtain⟨a1,a2,rfl,h1,h2⟩:∃a1 a2,args1=[.s a1,.s a2]∧RV R (.sl k w o l.length) a1∧RV R (.v (.fn cf)) a2:=by
  match args1,ra with
  |[.s a1,.s a2],h=>simp only[RFs,RF] at h;exact⟨a1,a2,rfl,h.1,h.2.1⟩
  |[],h=>simp[RFs] at h
  |[_],h=>simp[RFs] at h
  |_::_::_::_,h=>simp[RFs] at h
  | .agg _::_,h=>simp[RFs,RF] at h
  | .tup _::_,h=>simp[RFs,RF] at h
  | .s _:: .agg _::_,h=>simp[RFs,RF] at h
  | .s _:: .tup _::_,h=>simp[RFs,RF] at h
 simp only[RV] at h2;obtain⟨rfl,_⟩:=h2;have fin:∀(R':XE),HR R'→Ex2 (fun x=>x=k) R R'→R'.g=R.g.set k (.own w t z (setX cs (o*z) (((zt lta l).flatMap enc).map .v)))→zca t z cf lt okr [.s a1,.s (.fn cf)] R.h=some ([],R'.h)→R.h.length≤R'.h.length→WPc C f [.s a1,.s (.fn cf)] R.h (fun u1 h1=>∃R' u,R'.h=h1∧HR R'∧Ex2 (fun x=>x=k) R R'∧RF R' u u1∧(u= .tup []∧R'.g=R.g.set k (.own w t z (setX cs (o*z) (((zt lta l).flatMap enc).map .v))))):=fun R' q1 q2 q3 q4 q5=>
  ⟨.tup [],R'.h,zlG hf rfl q4 q5,R',.tup [],rfl,q1,q2,by simp[RF,RFs],rfl,q3⟩
 by_cases h0:l=[]
 ·subst h0;have e:R.g.set k (.own w t z (setX cs (o*z) (((zt lta []).flatMap enc).map .v)))=R.g:=by
   obtain⟨hl,e⟩:=zuJ.1 hk;simp only[zt,zxW,zv9,setX];rw[←e];exact zw7 hl
  refine fin R H (Ex2.refl _ _) e.symm ?_ (zuL _);rcases h1.sl hc with⟨_,_,_,rfl|⟨i,p,o',rfl⟩⟩|⟨_,p,rfl⟩
  ·simp[zca]
  ·simp[zca]
  ·simp[zca]
 ·have hlp:0<l.length:=List.length_pos_iff.2 h0;have hne:cs≠[]:=by
   rintro rfl;have:0<(o+l.length)*z:=Nat.mul_pos (by omega) (zxp hz);simp at hcs;omega
  obtain⟨vs,k1,k2,_⟩:=H.own hc (zgQ hc hne);have hlv:=k2.len;have hv:(vs.drop (o*z)).take (l.length*z)=l.flatMap enc:=RVs.unv (R:=R) (by rw[←hcut];exact(k2.drop _).take _);have hrow:YN z l.length (vs.drop (o*z))=l.map enc:=by rw[←zvj (l.length*z) (vs.drop (o*z)),hv];exact zfk he l _
  have hnl:∀v∈(zt lta l).flatMap enc,nlS v=true:=fun v hv=>by obtain⟨a,_,ha⟩:=zvR.1 hv;exact hn a v ha
  obtain⟨vs2,s1,s2,s3⟩:=zcK (B:=fun x=>x=k) (o:=o*z) H hc (by simpa using hne) rfl (RVs.v hnl);obtain rfl:vs=vs2:=by rw[k1] at s1;cases s1;rfl
  obtain⟨R',v',t1,t2,t3,t4,t5⟩:=s3 (.tup []) (.tup []) (by simp[RF,RFs]);simp only[zuE,zuH] at t1;refine fin R' t3 t4 t2 ?_ (by rw[←t1.2];simp);rcases h1.sl hc with⟨e,_⟩|⟨_,p,rfl⟩
  ·exact absurd e hne
  ·have b1:((l.map enc).all okr&&jH lt (l.map enc))=true:=by
    rw[zde hlt,hd,zxm,zu4];intro r hr;obtain⟨a,_,rfl⟩:=zvV.1 hr;exact hok a
   have e2:(zt lt (l.map enc)).flatten=(zt lta l).flatMap enc:=by rw[zeh hlt,List.flatMap]
   simp only[zca,if_true,k1,hrow];rw[zuQ (by omega),zuO ⟨trivial,by omega,hlm⟩,zuO b1,e2,t1.2]
theorem JH{C:Nat→Option EF}:∀{l m:List EG} {fr:Fr} {h:LH} {tr:List (Option TE)} {Φ:List (Option TE)→Fr→LH→Prop},WT C l fr h tr (fun tr fr h=>WT C m fr h tr Φ)→WT C (l++m) fr h tr Φ
 |[],_,_,_,_,_,w=>w
 |x::l,m,fr,h,tr,Φ,w=>by
  rw[zv5];rw[Qo] at w⊢;split at w
  ·rename_i hw;unfold mt at w⊢;split at w
   ·rename_i v h' e
    try simp only[e]
    rw[zcO] at w⊢;exact JH w
   ·exact w.elim
  ·exact JH w
  ·exact w.elim
theorem JI{C:Nat→Option EF}:∀{l:List EG} {fr:Fr} {h:LH} {tr:List (Option TE)} {Φ:List (Option TE)→Fr→LH→Prop},WT C l fr h tr Φ→WT C l fr h tr (fun tr' fr h=>(∃ext,tr'=tr++ext)∧Φ tr' fr h)
 |[],_,_,tr,_,w=>⟨⟨[],by simp⟩,w⟩
 |x::l,fr,h,tr,Φ,w=>by
  rw[Qo] at w⊢;split at w
  ·rename_i hw;unfold mt at w⊢;split at w
   ·rename_i v h' e
    try simp only[e]
    rw[zcO] at w⊢;refine y7 (JI w) ?_;rintro t f h2 ⟨⟨ext,rfl⟩,h3⟩;exact⟨⟨_,zvc _ _ _⟩,h3⟩
   ·exact w.elim
  ·refine y7 (JI w) ?_;rintro t f h2 ⟨⟨ext,rfl⟩,h3⟩;exact⟨⟨_,zvc _ _ _⟩,h3⟩
  ·exact w.elim
theorem zz{C:Nat→Option EF}{B:Nat→Prop}(n:Nat)(os:List Nat)(D:Nat→Prop){l:List EG}{ps:List (Nat×Nat)}{keep:List Nat}{fr:XFr}{g:XH}{Φ:Ex→XFr→XH→Prop}(hn:n≤l.length)(hp:(ps.all fun p=>decide (p.1<n)&&decide (p.2<n))=true)(w:wd C B D g.length (ps.map (·.1)) 0 os (l.take n) fr g (fun fr' g'=>wd C B (fun _=>True) g.length [] n [] (l.drop n) fr' g' (KOx keep Φ))):Ck C B (.draw l ps keep) fr g Φ:=by
 rintro R fr1 rfl H h;refine J3 ?_;have hl:l=l.take n++l.drop n:=(zvj n l).symm;rw[hl];refine JH (y7 (Zd (D:=D) H H (Ex2.refl _ _) h (h.olds _) rfl (fun i t e=>by simp at e) w) ?_);rintro tr' fr2 h2 ⟨h3,h4,R',f,rfl,a2,a3,a4,a5⟩;have ht:TrI C (fun _=>True) R [] tr':=fun i t e=>by obtain⟨q1,q2,_⟩:=h3 i t e;exact⟨⟨q1.1,fun j hj hd=>q1.2 j hj fun i _ hs=>hd i trivial hs⟩,⟨q2.1,fun j hj hd=>q2.2 j hj fun i _ hs=>hd i trivial hs⟩,fun e=>by simp at e⟩
 rw[zu0,zvu hn,zv1,zvn] at h4;refine y7 (JI (Zd (D:=fun _=>True) (P:=[]) (os:=[]) H a2 (a3.wide fun i _ hb=>⟨hb,.inr trivial⟩) a4 (fun n hn=>by simp at hn) (by omega) ht a5)) ?_;rintro tr2 fr3 h5 ⟨⟨ext,rfl⟩,h6,h7,R2,f2,rfl,b2,b3,b4,b5⟩;refine⟨?_,R2,yS keep f2,rfl,b2,b3,b4.keep keep,b5⟩;have hx:∀{ps:List (Nat×Nat)},(ps.all fun p=>decide (p.1<tr'.length)&&decide (p.2<tr'.length))=true→yg (zy C) tr' ps→yg (zy C) (tr'++ext) ps:=by
  intro ps
  induction ps with
  |nil=>exact fun _ _=>trivial
  |cons p ps ih=>
   intro h k;simp only[zwp,zuP,zuW] at h;obtain⟨⟨e1,e2⟩,e3⟩:=h;refine⟨?_,ih e3 k.2⟩;have:=k.1;unfold qb at this⊢;rw[zuK e1,zuK e2];exact this
 refine hx ?_ (Zb h3 ?_)
 ·rw[zu4] at hp⊢;intro p hpm;have:=hp p hpm;simp only[zuP,zuW] at this⊢;omega
 ·rw[zu4] at hp⊢;intro p hpm;have:=hp p hpm;simp only[zuP,zuW] at this⊢;refine⟨⟨?_,by omega⟩,by omega⟩;simpa using⟨p.2,hpm⟩
theorem zdf{C:Nat→Option EF}{B:Nat→Prop}(m n:Nat)(os:List Nat)(D:Nat→Prop){l:List EG}{ps:List (Nat×Nat)}{keep:List Nat}{fr:XFr}{g:XH}{Φ:Ex→XFr→XH→Prop}(hm:m≤n)(hn:n≤l.length)(hp:(ps.all fun p=>decide (p.1<m)&&decide (p.2<n))=true)(w:wd C (fun i=>B i∧(g.length≤i∨D i)) D g.length (ps.map (·.1)) 0 os (l.take m) fr g (fun fr' g'=>wd C (fun i=>B i∧(g.length≤i∨D i)) D g.length [] m [] ((l.take n).drop m) fr' g' (fun fr' g'=>wd C B (fun _=>True) g.length [] n [] (l.drop n) fr' g' (KOx keep Φ)))):Ck C B (.draw l ps keep) fr g Φ:=by
 rintro R fr1 rfl H h;refine J3 ?_;have hl:l=l.take m++((l.take n).drop m++l.drop n):=by
  have:(l.take n).take m=l.take m:=by rw[zwI,zvu hm]
  rw[←zvc,←this,zvj,zvj]
 rw[hl];refine JH (y7 (Zd (D:=D) H H (Ex2.refl _ _) h (h.olds _) rfl (fun i t e=>by simp at e) w) ?_);rintro tr' fr2 h2 ⟨h3,h4,R',f,rfl,a2,a3,a4,a5⟩;rw[zu0,zvu (by omega),zv1,zvn] at h4;have ht0:TrI C D R [] tr':=fun i t e=>by obtain⟨q1,q2,_⟩:=h3 i t e;exact⟨q1,q2,fun e=>by simp at e⟩
 refine JH (y7 (JI (Zd (D:=D) (P:=[]) (os:=[]) H a2 (a3.wide fun i _ hb=>⟨hb,hb.2⟩) a4 (fun n hn=>by simp at hn) h4 ht0 a5)) ?_);rintro tr2 fr3 h5 ⟨⟨ext,rfl⟩,h6,h7,R2,f2,rfl,b2,b3,b4,b5⟩;rw[zvQ,zu0,zvu hn] at h7;have ht:TrI C D R (ps.map (·.1)) (tr'++ext):=fun i t e=>by
  by_cases hi:i<tr'.length
  ·rw[zuK hi] at e;exact h3 i t e
  ·obtain⟨q1,q2,_⟩:=h6 i t e;refine⟨q1,q2,fun hc=> ?_⟩;exfalso;rw[zw5,zvV] at hc;obtain⟨p,hpm,e2⟩:=hc;have:=zu4.1 hp p hpm;simp only[zuP,zuW] at this;omega
 have ht2:TrI C (fun _=>True) R [] (tr'++ext):=fun i t e=>by obtain⟨q1,q2,_⟩:=h6 i t e;exact⟨⟨q1.1,fun j hj hd=>q1.2 j hj fun i _ hs=>hd i trivial hs⟩,⟨q2.1,fun j hj hd=>q2.2 j hj fun i _ hs=>hd i trivial hs⟩,fun e=>by simp at e⟩
 refine y7 (JI (Zd (D:=fun _=>True) (P:=[]) (os:=[]) H b2 (b3.wide fun i _ hb=>⟨hb.1,.inr trivial⟩) b4 (fun n hn=>by simp at hn) (by omega) ht2 b5)) ?_;rintro tr3 fr4 h8 ⟨⟨ext2,rfl⟩,_,_,R3,f3,rfl,c2,c3,c4,c5⟩;refine⟨?_,R3,yS keep f3,rfl,c2,c3,c4.keep keep,c5⟩;generalize tr'++ext=tr1 at *;have hx:∀{ps:List (Nat×Nat)},(ps.all fun p=>decide (p.1<tr1.length)&&decide (p.2<tr1.length))=true→yg (zy C) tr1 ps→yg (zy C) (tr1++ext2) ps:=by
  intro ps
  induction ps with
  |nil=>exact fun _ _=>trivial
  |cons p ps ih=>
   intro h k;simp only[zwp,zuP,zuW] at h;obtain⟨⟨e1,e2⟩,e3⟩:=h;refine⟨?_,ih e3 k.2⟩;have:=k.1;unfold qb at this⊢;rw[zuK e1,zuK e2];exact this
 refine hx ?_ (Zb ht ?_)
 ·rw[zu4] at hp⊢;intro p hpm;have:=hp p hpm;simp only[zuP,zuW] at this⊢;omega
 ·rw[zu4] at hp⊢;intro p hpm;have:=hp p hpm;simp only[zuP,zuW] at this⊢;refine⟨⟨?_,by omega⟩,by omega⟩;simpa using⟨p.2,hpm⟩
theorem ziN{C:Nat→Option EF}:∀{l:List EG} {fr:Fr} {h:LH} {t0 tr:List (Option TE)} {Φ:List (Option TE)→Fr→LH→Prop},WT C l fr h tr Φ→WT C l fr h (t0++tr) (fun tr' fr h=>∃t2,tr'=t0++t2∧Φ t2 fr h)
 |[],fr,h,t0,tr,Φ,w=>⟨tr,rfl,w⟩
 |x::l,fr,h,t0,tr,Φ,w=>by
  rw[Qo] at w⊢;split at w
  ·rename_i hw;unfold mt at w⊢;split at w
   ·rename_i v h' e
    try simp only[e]
    rw[zcO] at w⊢;rw[zvc];exact ziN w
   ·exact w.elim
  ·rw[zvc];exact ziN w
  ·exact w.elim
theorem Qc{C:Nat→Option EF}{tr ext:List (Option TE)}:∀{ps:List (Nat×Nat)},(ps.all fun p=>decide (p.1<tr.length)&&decide (p.2<tr.length))=true→yg (zy C) tr ps→yg (zy C) (tr++ext) ps
 |[],_,_=>trivial
 |p::ps,h,k=>by simp only[zwp,zuP,zuW] at h;obtain⟨⟨e1,e2⟩,e3⟩:=h;refine⟨?_,Qc e3 k.2⟩;have:=k.1;unfold qb at this⊢;rw[zuK e1,zuK e2];exact this
theorem zcg{C:Nat→Option EF}{tr:List (Option TE)}:∀{ps:List (Nat×Nat)},yg (zy C) tr ps↔∀p∈ps,qb (zy C) tr p
 |[]=>by simp[yg]
 |p::ps=>by simp[yg,zcg (ps:=ps)]
theorem zo9{C:Nat→Option EF}{B:Nat→Prop}(m n:Nat)(os:List Nat)(D:Nat→Prop){l:List EG}{ps:List (Nat×Nat)}{fr:XFr}{Φ:XFr→XH→Prop}{R:XE}{fr1:Fr}(H:HR R)(h:RFr R fr fr1)(hm:m≤n)(hn:n≤l.length)(hp:(ps.all fun p=>decide (p.1<m)&&decide (p.2<n))=true)(w:wd C (fun i=>B i∧(R.g.length≤i∨D i)) D R.g.length (ps.map (·.1)) 0 os (l.take m) fr R.g (fun fr' g'=>wd C (fun i=>B i∧(R.g.length≤i∨D i)) D R.g.length [] m [] ((l.take n).drop m) fr' g' (fun fr' g'=>wd C B (fun _=>True) R.g.length [] n [] (l.drop n) fr' g' Φ))):
 WT C l fr1 R.h [] (fun tr' fr3 h5=>yg (zy C) tr' ps∧tr'.length=l.length∧∃R2 f2,R2.h=h5∧HR R2∧Ex2 B R R2∧RFr R2 f2 fr3∧Φ f2 R2.g):=by
 have hl:l=l.take m++((l.take n).drop m++l.drop n):=by
  have:(l.take n).take m=l.take m:=by rw[zwI,zvu hm]
  rw[←zvc,←this,zvj,zvj]
 have hll:l.length=n+(l.drop n).length:=by rw[zvQ];omega
 rw[hll]
 conv=>arg 2;rw[hl]
 refine JH (y7 (Zd (D:=D) H H (Ex2.refl _ _) h (h.olds _) rfl (fun i t e=>by simp at e) w) ?_);rintro tr' fr2 h2 ⟨h3,h4,R',f,rfl,a2,a3,a4,a5⟩;rw[zu0,zvu (by omega),zv1,zvn] at h4;have ht0:TrI C D R [] tr':=fun i t e=>by obtain⟨q1,q2,_⟩:=h3 i t e;exact⟨q1,q2,fun e=>by simp at e⟩
 refine JH (y7 (JI (Zd (D:=D) (P:=[]) (os:=[]) H a2 (a3.wide fun i _ hb=>⟨hb,hb.2⟩) a4 (fun n hn=>by simp at hn) h4 ht0 a5)) ?_);rintro tr2 fr3 h5 ⟨⟨ext,rfl⟩,h6,h7,R2,f2,rfl,b2,b3,b4,b5⟩;rw[zvQ,zu0,zvu hn] at h7;have ht:TrI C D R (ps.map (·.1)) (tr'++ext):=fun i t e=>by
  by_cases hi:i<tr'.length
  ·rw[zuK hi] at e;exact h3 i t e
  ·obtain⟨q1,q2,_⟩:=h6 i t e;refine⟨q1,q2,fun hc=> ?_⟩;exfalso;rw[zw5,zvV] at hc;obtain⟨p,hpm,e2⟩:=hc;have:=zu4.1 hp p hpm;simp only[zuP,zuW] at this;omega
 have ht2:TrI C (fun _=>True) R [] (tr'++ext):=fun i t e=>by obtain⟨q1,q2,_⟩:=h6 i t e;exact⟨⟨q1.1,fun j hj hd=>q1.2 j hj fun i _ hs=>hd i trivial hs⟩,⟨q2.1,fun j hj hd=>q2.2 j hj fun i _ hs=>hd i trivial hs⟩,fun e=>by simp at e⟩
 refine y7 (JI (Zd (D:=fun _=>True) (P:=[]) (os:=[]) H b2 (b3.wide fun i _ hb=>⟨hb.1,.inr trivial⟩) b4 (fun n hn=>by simp at hn) (by omega) ht2 b5)) ?_;rintro tr3 fr4 h8 ⟨⟨ext2,rfl⟩,_,h9,R3,f3,rfl,c2,c3,c4,c5⟩;refine⟨?_,by omega,R3,f3,rfl,c2,c3,c4,c5⟩;generalize tr'++ext=tr1 at *;refine Qc ?_ (Zb ht ?_)
 ·rw[zu4] at hp⊢;intro p hpm;have:=hp p hpm;simp only[zuP,zuW] at this⊢;omega
 ·rw[zu4] at hp⊢;intro p hpm;have:=hp p hpm;simp only[zuP,zuW] at this⊢;refine⟨⟨?_,by omega⟩,by omega⟩;simpa using⟨p.2,hpm⟩
theorem zfC{C:Nat→Option EF}:∀{l1 l2:List EG} {fr:Fr} {h:LH} {tr:List (Option TE)} {Φ1 Φ2:List (Option TE)→Fr→LH→Prop},WT C l1 fr h tr Φ1→WT C (l1++l2) fr h tr Φ2→WT C (l1++l2) fr h tr (fun tr' fr h=>(∃t1 e fr1 h1,tr'=t1++e∧Φ1 t1 fr1 h1)∧Φ2 tr' fr h)
 |[],l2,fr,h,tr,Φ1,Φ2,w1,w2=>by
  rw[zoT] at w1;rw[zwj] at w2⊢;refine y7 (JI w2) ?_;rintro t f h2 ⟨⟨ext,rfl⟩,h3⟩;exact⟨⟨tr,ext,fr,h,rfl,w1⟩,h3⟩
 |x::l,l2,fr,h,tr,Φ1,Φ2,w1,w2=>by
  rw[zv5] at w2⊢;rw[Qo] at w1 w2⊢;cases hw:jt fr x.guard with
  |none=>rw[hw] at w1;exact w1.elim
  |some b=>
   cases b with
   |true=>
    rw[hw] at w1 w2;simp only at w1 w2⊢;unfold mt at w1 w2⊢;split at w1
    ·rename_i v h' e;simp only[e] at w2⊢;rw[zcO] at w1 w2⊢;exact zfC w1 w2
    ·exact w1.elim
   |false=>
    rw[hw] at w1 w2;exact zfC w1 w2
theorem zi5{C:Nat→Option EF}{B:Nat→Prop}(b:Nat)(ps1:List (Nat×Nat))(os1:List Nat)(a m n:Nat)(os:List Nat)(ps2:List (Nat×Nat))(os2:List Nat)(D2:Nat→Prop){l:List EG}{ps:List (Nat×Nat)}{keep:List Nat}{fr:XFr}{g:XH}{Φ:Ex→XFr→XH→Prop}(hb:b≤l.length)(ha:a≤l.length)(hm:m≤n)(hn:n≤(l.drop a).length)(hp:(ps.all fun p=>ps1.contains p||(decide (a≤p.1)&&decide (a≤p.2)&&ps2.contains (p.1-a,p.2-a)))=true)(hp1:(ps1.all fun p=>decide (p.1<b)&&decide (p.2<b))=true)(hp2:(ps2.all fun p=>decide (p.1<m)&&decide (p.2<n))=true)
 (w1:wd C B (fun _=>False) g.length (ps1.map (·.1)) 0 os1 (l.take b) fr g (fun _ _=>True))
 (w:wd C B (fun _=>False) g.length [] 0 os (l.take a) fr g (fun fr' g'=>wd C (fun i=>B i∧(g'.length≤i∨D2 i)) D2 g'.length (ps2.map (·.1)) 0 os2 ((l.drop a).take m) fr' g' (fun fr'' g''=>wd C (fun i=>B i∧(g'.length≤i∨D2 i)) D2 g'.length [] m [] (((l.drop a).take n).drop m) fr'' g'' (fun fr'' g''=>wd C B (fun _=>True) g'.length [] n [] ((l.drop a).drop n) fr'' g'' (KOx keep Φ))))):Ck C B (.draw l ps keep) fr g Φ:=by
 rintro R fr1 rfl H h;refine J3 ?_;have hA:=Zd (D:=fun _=>False) (tr:=[]) (k:=0) H H (Ex2.refl _ _) h (h.olds os1) rfl (fun i t e=>by simp at e) w1;have hB:WT C (l.take a++l.drop a) fr1 R.h [] (fun tr' fr3 h5=>(∃t1 t2,tr'=t1++t2∧t1.length=a∧yg (zy C) t2 ps2∧t2.length=(l.drop a).length)∧∃R2 f2,R2.h=h5∧HR R2∧Ex2 B R R2∧RFr R2 f2 fr3∧KOx keep Φ f2 R2.g):=by refine JH (y7 (Zd (D:=fun _=>False) H H (Ex2.refl _ _) h (h.olds os) rfl (fun i t e=>by simp at e) w) ?_);rintro tr' fr2 h2 ⟨h3,h4,R',f,rfl,a2,a3,a4,a5⟩;rw[zu0,zvu ha,zv1,zvn] at h4;have w2:=ziN (t0:=tr') (zo9 m n os2 D2 a2 a4 hm hn hp2 a5);rw[zvl] at w2;refine y7 w2 ?_;rintro tr3 fr4 h8 ⟨t2,rfl,k1,k2,R3,f3,rfl,c2,c3,c4,c5⟩;exact⟨⟨tr',t2,rfl,h4,k1,k2⟩,R3,f3,rfl,c2,a3.trans c3,c4,c5⟩
 have e1:l=l.take b++l.drop b:=(zvj b l).symm;have e2:l.take a++l.drop a=l:=zvj a l;rw[e2,e1] at hB;have hC:=zfC hA hB;rw[←e1] at hC;refine y7 hC ?_;rintro tr fr3 h5 ⟨⟨t1,e,fr4,h6,he,q1,q2,_⟩,⟨u1,u2,hu,u3,u4,u5⟩,R2,f2,rfl,c2,c3,c4,c5⟩;rw[zu0,zvu hb,zvn] at q2;refine⟨?_,R2,yS keep f2,rfl,c2,c3,c4.keep keep,c5⟩;have k1:yg (zy C) t1 ps1:=Zb q1 (by
  rw[zu4] at hp1⊢;intro p hpm;have:=hp1 p hpm;simp only[zuP,zuW] at this⊢;refine⟨⟨?_,by omega⟩,by omega⟩;rw[zw5];exact zvV.2 ⟨p,hpm,rfl⟩)
 have k2:yg (zy C) (t1++e) ps1:=Qc (by
  rw[zu4] at hp1⊢;intro p hpm;have:=hp1 p hpm;simp only[zuP,zuW] at this⊢;omega) k1
 rw[←he] at k2;rw[zcg] at k2 u4⊢;intro p hpm;have hq:=zu4.1 hp p hpm;simp only[zvJ,zuP,zuW,zw5] at hq;rcases hq with hq|⟨⟨v1,v2⟩,v3⟩
 ·exact k2 p hq
 ·have:=u4 _ v3;unfold qb at this⊢;rw[hu,zuN (by omega),zuN (by omega),u3];exact this
theorem zqp{C:Nat→Option EF}{f:Nat}{F:List FV→LH→Option (List FV×LH)}(hf:C f=some ⟨1,.ext 1 1 F,(List.range 1).map fun i=> .tmp (1+i)⟩){vs:List SV}{k:Int}(hF:∀h,F [.agg vs] h=some ([.s (.int .i64 k)],h)){g:XH}:Cl C (fun _=>False) f [.agg (vs.map .v)] g fun u g'=>u= .s (.v (.int .i64 k))∧g'=g:=by
 rintro R args1 rfl H ra;obtain⟨l,rfl,h1⟩:∃l,args1=[.agg l]∧RVs R (vs.map .v) l:=by
  match args1,ra with
  |[.agg l],h=>simp only[RFs,RF] at h;exact⟨l,rfl,h.1⟩
  |[],h=>simp[RFs] at h
  |[.s _],h=>simp[RFs,RF] at h
  |[.tup _],h=>simp[RFs,RF] at h
  |_::_::_,h=>simp[RFs] at h
 obtain rfl:l=vs:=RVs.unv h1;exact⟨.s (.int .i64 k),R.h,ZC hf rfl (hF _) (zuL _) rfl,R,.s (.v (.int .i64 k)),rfl,H,Ex2.refl _ _,by simp[RF,RV,nlS],rfl,rfl⟩
theorem Lp.invH{C:Nat→Option EF}{B:Nat→Prop}{keep:List Nat}{b:EC}{Φ:Ex→XFr→XH→Prop}(hk:keep.Nodup)(I:Nat→XFr→XH→Prop)(hs:∀n fr g,I n fr g→qn g.length fr→fr.map (·.1)=keep∧wk C B b fr g (KLx (fun fr' g'=>∃m,m<n∧I m fr' g') keep Φ)):∀n fr g,I n fr g→Lp C B keep b fr g Φ:=by
 intro n fr g hI R fr1 hg H h;refine WPl.inv (fun k fr1 h1=>∃R' fr,R'.h=h1∧HR R'∧Ex2 B R R'∧RFr R' fr fr1∧I k fr R'.g) ?_ n fr1 R.h ⟨R,fr,rfl,H,Ex2.refl _ _,h,hg▸hI⟩;rintro k fr2 h2 ⟨R',f,rfl,a2,a3,a4,a5⟩;obtain⟨k1,k2⟩:=hs k f R'.g a5 a4.lt;refine⟨?_,?_⟩
 ·have e:=a4.slots;rw[k1] at e;rw[e];exact zal (e▸hk)
 ·refine(Yz k2 R' fr2 rfl a2 a4).mono ?_;rintro x fr' h' ⟨R2,f2,rfl,b2,b3,b4,b5⟩;cases x with
  |normal=>
   obtain⟨m,hm,c⟩:=b5;exact⟨m,hm,R2,_,rfl,b2,a3.trans b3,b4.keep keep,c⟩
  |exit id=>exact⟨R2,f2,rfl,b2,a3.trans b3,b4,b5⟩
  |goto l=>exact⟨R2,f2,rfl,b2,a3.trans b3,b4,b5⟩
  |ret=>exact⟨R2,f2,rfl,b2,a3.trans b3,b4,b5⟩
end Go.Proofs.YtdmcfjkgopmlgaaGreatDoor.Ev

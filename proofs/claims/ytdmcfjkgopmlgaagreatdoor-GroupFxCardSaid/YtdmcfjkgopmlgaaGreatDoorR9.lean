import Derived.Test.YtdmcfjkgopmlgaaGreatDoorR8
import Derived.KernelRfl
set_option linter.unusedVariables false
set_option linter.unusedSimpArgs false
set_option linter.unusedSectionVars false
namespace Go.Proofs.YtdmcfjkgopmlgaaGreatDoor.Ev.CA
open Go
section
attribute [-simp] List.length_flatMap getElem?_pos
theorem zrq{l:List Vi}(hI:LosI l){book perm moved cap life year r:Int}{res:Res}{left:List Vi}(h:Zz l book perm moved cap life year r=(0,res,left)): -4000000000000≤res.used-res.new∧res.used-res.new≤4000000000000:=by
 have hk:=hI.kept year;unfold Zz at h;split at h
 ·simp at h
 split at h
 ·simp at h
 rename_i k2;simp only[Decidable.not_not] at k2;obtain⟨_,_,_,m4⟩:=zbK.1 k2;dsimp only at h;have hb:=Qh (book+perm-moved) cap m4;have hv:=zbi year (yD year l) (jE (book+perm-moved) cap) hb.1 (fun v hv=>(hk.m v hv).1);simp only[za,zuW] at m4;split at h
 ·simp only[zuH,true_and] at h;obtain⟨rfl,_⟩:=h;simp only;omega
 split at h
 ·split at h
  ·simp only[zuH,true_and] at h;obtain⟨rfl,_⟩:=h;simp only;omega
  ·rename_i hne;simp only[zuH] at h;exact absurd h.1 hne
 ·simp only[zuH,true_and] at h;obtain⟨rfl,_⟩:=h;simp
theorem ztv{t:List Rw}(ht:zfB t){inp:Inp}{op:Bal}(hop:BalM op){l:List Vi}(hI:LosI l)(hs:Sor ltV l){reg:List Bu}(hr:BuV reg){p:Pro}{left:List Vi}(h:YJ t inp op l reg=(0,p,left)):ProM p∧p.inp=inp∧Sor ltV left∧p.cl.b=reg∧p.op=op:=by
 rw[zhJ] at h;unfold zkB at h;split at h
 ·simp only[zuH] at h;omega
 rename_i c1;simp only[not_or,Decidable.not_not] at c1;split at h
 ·simp only[zuH] at h;omega
 rename_i r hr1;split at h
 ·rename_i hn;simp only[zuH] at h;exact absurd h.1 hn
 split at h
 ·simp only[zuH] at h;omega
 rename_i rates hrs;dsimp only at h;split at h
 ·rename_i hn;simp only[zuH] at h;exact absurd h.1 hn
 rename_i h0;simp only[ne_eq,Decidable.not_not] at h0;have te:=(zj2 hI hs inp.book inp.perm ((zS op.b reg).map (·.m)).sum inp.cap inp.life (inp.p.tdiv 4) r).2 h0;generalize hT:zcu l inp.book inp.perm ((zS op.b reg).map (·.m)).sum inp.cap inp.life (inp.p.tdiv 4) r=T at *;obtain⟨T1,cur,lf⟩:=T;simp only at h0;subst h0;have hm:=zel hI hs hT;have hu:=zrq hI te;have hso:=zrr hs te;split at h
 ·simp only[zuH] at h;omega
 rename_i h1;simp only[Decidable.not_not] at h1;split at h
 ·rename_i hn;simp only[zuH] at h;exact absurd h.1 hn
 rename_i h2;simp only[ne_eq,Decidable.not_not] at h2;split at h
 ·rename_i hn;simp only[zuH] at h;exact absurd h.1 hn
 rename_i h3;simp only[ne_eq,Decidable.not_not] at h3;split at h
 ·simp only[zuH] at h;omega
 rename_i now hnw;split at h
 ·simp only[zuH] at h;omega
 rename_i h4;simp only[not_or,Decidable.not_not] at h4;split at h
 rotate_left
 ·simp only[zuH] at h;omega
 rename_i h5;simp only[zuH,true_and] at h;obtain⟨rfl,rfl⟩:=h;simp only[zwp,List.all_nil,zxm,zuP] at h5;obtain⟨a1,a2,a3,a4,a5,a6,a7,a8,a9⟩:=h5;obtain⟨_,rr⟩:=Ym ht hrs;obtain⟨_,_,_,_,l1,_⟩:=QM (show zk (zx lf) (yZ t inp.j inp.p).1=((zk (zx lf) (yZ t inp.j inp.p).1).1,0) by rw[←h2]);obtain⟨_,_,_,_,l2,_⟩:=QM (show zk (zk (zx lf) (yZ t inp.j inp.p).1).1 inp.judge=((zk (zk (zx lf) (yZ t inp.j inp.p).1).1 inp.judge).1,0) by rw[←h3]);refine⟨⟨hm,c1.2.2,a4,a8,a5,a6,a7,h4.2,a2,a3,a9,hu,zaM _ _,⟨hr,rr,h1,l1,?_⟩⟩,rfl,hso,rfl,rfl⟩;simp only[za,zuW] at l2⊢;omega
structure StaW(s:Sta):Prop where
 bk:za s.book=true
 pm:za s.perm=true
 up:za s.up=true
 reg:BuV s.reg
 ri:Q8 s.reg
 lo:LosI s.l
 ls:Sor ltV s.l
def zfq(s:Sta):Sta:={s with reg:=zt ltB s.reg}
def zi1(c:Clo):Clo:={c with was:=zfq c.was}
def yG(e:Ent):Ent:={e with s:=zfq e.s,cs:=e.cs.map zi1}
def zjK(e:Ent):List (List Bu):=e.cs.map (fun c=>c.was.reg)++[e.s.reg]
structure EntW(e:Ent):Prop where
 v:EntV e
 s:StaW e.s
 cs:∀c∈e.cs,StaW c.was∧ProM c.p
 per:PerV e
 reg:∀k,e.touched[k+1]? =some false→(zjK e)[k+1]? =(zjK e)[k]?
theorem zjV:∀{l:List Bool},l≠[]→zbc l=l.set (l.length-1) true:=fun{l} h=>by
 obtain⟨ys,y,rfl⟩:∃ys y,l=ys++[y]:=⟨l.dropLast,l.getLast h,(List.dropLast_concat_getLast h).symm⟩
 unfold zbc;rw[zxc,zuM,zuS,zxM,zvO _ _ (zuL _),zvG];rfl
theorem EntW.ne{e:Ent}(h:EntW e):e.touched≠[]:=by have:=h.v.cl;intro e0;rw[e0] at this;simp at this
theorem znx{e:Ent}(h:EntW e){m:Cmd}{d:Int×Sta}(hd:zb8 (yG e) m=(d.1,zfq d.2))(hb:d.1≠0→d.2=e.s):Y1 (yG e) m=((zA e d).1,yG (zA e d).2):=by
 have ho:YM (yG e)=yE e.first e.touched:=rfl
 unfold Y1 zA;rw[ho];by_cases c1:¬zm (yE e.first e.touched)=true
 ·rw[zuO c1,zuO c1]
 rw[zuQ c1,zuQ c1,hd];by_cases c2:d.1=0
 ·rw[c2];simp only[if_true];rw[show zbc (yG e).touched=e.touched.set (e.touched.length-1) true from zjV h.ne];rfl
 ·split
  ·rename_i hx;simp only[zuH] at hx;exact absurd hx.1 c2
  ·rename_i hx;simp only[zuH] at hx;rw[zuQ c2,hb c2,hx.1]
theorem zqo{e:Ent}(h:EntW e){d:Int×Sta}(hb:d.1≠0→d.2=e.s)(hs:StaW d.2)(hv:EntV (zA e d).2):EntW (zA e d).2:=by
 unfold zA at hv⊢;split
 ·exact h
 rename_i c1;split
 ·rename_i c2;rw[zuQ c1,zuO c2] at hv;refine⟨hv,hs,h.cs,h.per,fun k hk=> ?_⟩;have hlen:=h.v.cl;by_cases hkl:k+1=e.touched.length-1
  ·simp only at hk;rw[hkl,zu1 (by omega)] at hk;cases hk
  ·simp only at hk;rw[zuR (by omega)] at hk;have:=h.reg k hk;have hkk:k+1<e.touched.length:=(zuJ.1 hk).1;unfold zjK at this⊢;simp only;rw[zuK (by simp;omega),zuK (by simp;omega)] at this⊢;exact this
 ·rename_i c2;rw[hb c2];exact h
theorem zou{c y n:Int}(hc:yQ c y=true):∀{l:List Bu},(∀b∈l,yQ b.c b.y=true)→∀b∈jZ c y n l,yQ b.c b.y=true
 |[],_,b,hb=>by
  unfold jZ at hb;split at hb
  ·rw[zvm] at hb;subst hb;exact hc
  ·cases hb
 |x::l,h,b,hb=>by
  unfold jZ at hb;split at hb
  ·rcases zuX.1 hb with rfl|hb
   ·exact h x (by simp)
   ·exact h b (by simp[hb])
  ·rcases zuX.1 hb with rfl|hb
   ·exact h b (by simp)
   ·exact zou hc (fun a ha=>h a (by simp[ha])) b hb
theorem zjW{l:List Bu}{c y n:Int}(hc:yQ c y=true)(h:∀b∈l,yQ b.c b.y=true):∀b∈jF l c y n,yQ b.c b.y=true:=fun b hb=>zou hc h b (zvx.1 hb).1
theorem ztG{l:List Bu}(h:BuV l)(hi:Q8 l)(c y n:Int):BuV (jx l c y n).2∧Q8 (jx l c y n).2:=by
 have h1:=zcP.move ⟨hi,h.u⟩ c y n;refine⟨⟨h1.2,zqU h.nz c y n,h1.1.2.1,?_⟩,h1.1⟩;unfold jx;split
 ·exact h.k
 rename_i c1;simp only[not_or,Decidable.not_not] at c1;split
 ·exact h.k
 split
 ·exact h.k
 ·exact zjW c1.1 h.k
theorem zma{l:List Bu}(h:BuV l)(hi:Q8 l)(c y c2 y2 n:Int):BuV (ya l c y c2 y2 n).2∧Q8 (ya l c y c2 y2 n).2:=by
 have h1:=zcP.reclass ⟨hi,h.u⟩ c y c2 y2 n;refine⟨⟨h1.2,zjG h.nz c y c2 y2 n,h1.1.2.1,?_⟩,h1.1⟩;unfold ya;split
 ·exact h.k
 rename_i c1;simp only[not_or,Decidable.not_not] at c1;split
 ·exact h.k
 split
 ·exact h.k
 ·exact zjW c1.2.1 (zjW c1.1 h.k)
theorem zn9(l:List Bu)(c y n:Int)(h:(jx l c y n).1≠0):(jx l c y n).2=l:=by
 unfold jx at h⊢;split
 ·rfl
 split
 ·rfl
 split
 ·rfl
 ·rename_i a b c';rw[zuQ a,zuQ b,zuQ c'] at h;exact absurd rfl h
theorem zii(l:List Bu)(c y c2 y2 n:Int)(h:(ya l c y c2 y2 n).1≠0):(ya l c y c2 y2 n).2=l:=by
 unfold ya at h⊢;split
 ·rfl
 split
 ·rfl
 split
 ·rfl
 ·rename_i a b c';rw[zuQ a,zuQ b,zuQ c'] at h;exact absurd rfl h
theorem zfb(e:Ent)(p:Int):Jx (yG e) p=Jx e p:=by unfold Jx yG;simp only[List.find?_map];rw[Option.map_map];rfl
def dP(e:Ent)(c:Cmd):Int×Sta:=
 if c.k=3 then QY e.s c.n else if c.k=4 then Q1 e.s c.n else if c.k=5 then zhQ e.s c.c c.y c.n else if c.k=6 then zih e.s c.c c.y c.d c.z c.n
 else if c.k=7 then zbD e.s c.r else if c.k=8 then zbq e.s c.r c.y else jD e c.p c.n
theorem zrt{t:List Rw}{js:List Jo}{e:Ent}{c:Cmd}(hk:3≤c.k∧c.k≤9):yi t js e c=((zA e (dP e c)).1,(zA e (dP e c)).2,js):=by
 unfold yi dP;by_cases h3:c.k=3
 ·rw[zuO h3,zuO h3]
 rw[zuQ h3,zuQ h3];by_cases h4:c.k=4
 ·rw[zuO h4,zuO h4]
 rw[zuQ h4,zuQ h4];by_cases h5:c.k=5
 ·rw[zuO h5,zuO h5]
 rw[zuQ h5,zuQ h5];by_cases h6:c.k=6
 ·rw[zuO h6,zuO h6]
 rw[zuQ h6,zuQ h6];by_cases h7:c.k=7
 ·rw[zuO h7,zuO h7]
 rw[zuQ h7,zuQ h7];by_cases h8:c.k=8
 ·rw[zuO h8,zuO h8]
 rw[zuQ h8,zuQ h8,zuO (by omega)]
theorem znz(e:Ent)(p n:Int):zko e p n=match Jx e p with
 |none=>(3,e.s)
 |some q=>if e.s.filed.contains p then(4,e.s) else if(zk n q.rate).2≠0 then((zk n q.rate).2,e.s)
  else if¬za ((zk n q.rate).1-q.cur.tax)=true∨¬za (e.s.up+((zk n q.rate).1-q.cur.tax))=true then(6,e.s) else(0,{e.s with up:=e.s.up+((zk n q.rate).1-q.cur.tax),filed:=e.s.filed++[p]}):=by
 unfold zko;cases Jx e p with
 |none=>rfl
 |some q=>
  dsimp only;split
  ·rfl
  rcases hs:zk n q.rate with⟨v,er⟩
  by_cases h0:er=0
  ·subst h0;rfl
  ·rw[zuO h0];split
   ·rename_i hx;simp only[zuH] at hx;exact absurd hx.2 h0
   ·rename_i hx;simp only[zuH] at hx;rw[hx.2]
theorem zjd{e:Ent}(h:EntW e)(p n:Int):zko (yG e) p n=((jD e p n).1,zfq (jD e p n).2)∧((jD e p n).1≠0→(jD e p n).2=e.s)∧StaW (jD e p n).2:=by
 rw[znz,zfb,←zkS h.per];unfold jD;cases hq:qS e p with
 |none=>exact⟨rfl,fun _=>rfl,h.s⟩
 |some q=>
  obtain⟨cc,hcc,hcp⟩:=QJ hq;have htax:=(h.cs cc hcc).2.tax;rw[hcp] at htax;have hup:=h.s.up;dsimp only;have e1:(yG e).s.filed=e.s.filed:=rfl;have e2:(yG e).s.up=e.s.up:=rfl;rw[e1,e2];by_cases hf:e.s.filed.contains p=true
  ·rw[zuO hf,zuO hf];exact⟨rfl,fun _=>rfl,h.s⟩
  rw[zuQ hf,zuQ hf];have ht2:(qU n q.rate q.cur.tax).2=if(zk n q.rate).2=0 then(if za ((zk n q.rate).1-q.cur.tax)=true then 0 else 6) else(zk n q.rate).2:=by
   unfold qU;split
   ·split<;>rfl
   ·rfl
  by_cases h0:(zk n q.rate).2=0
  rotate_left
  ·rw[zuQ h0] at ht2;rw[zuO h0,ht2,zuO h0];exact⟨rfl,fun _=>rfl,h.s⟩
  rw[zuO h0] at ht2;rw[zuQ (not_not_intro h0)];by_cases h1:za ((zk n q.rate).1-q.cur.tax)=true
  rotate_left
  ·rw[zuQ h1] at ht2;rw[ht2,zuO (.inl h1),zuO (show(6:Int)≠0 by decide)];exact⟨rfl,fun _=>rfl,h.s⟩
  rw[zuO h1] at ht2;have ht1:(qU n q.rate q.cur.tax).1=(zk n q.rate).1-q.cur.tax:=by unfold qU;rw[zuO h0,zuO h1]
  rw[ht2,ht1,zuQ (show¬(0:Int)≠0 by decide)];generalize(zk n q.rate).1-q.cur.tax=w at *;rw[zau hup];unfold zcQ;by_cases h2:za (e.s.up+w)=true
  rotate_left
  ·rw[zuO (.inr h2),zuQ (not_not_intro h1),zuO h2,zuO (show(6:Int)≠0 by decide)];exact⟨rfl,fun _=>rfl,h.s⟩
  rw[zuQ (by simp[h1,h2]),zuQ (not_not_intro h1),zuQ (not_not_intro h2),zuQ (show¬(0:Int)≠0 by decide)];refine⟨rfl,fun h=>absurd rfl h,⟨h.s.bk,h.s.pm,h2,h.s.reg,h.s.ri,h.s.lo,h.s.ls⟩⟩
theorem zi2{e:Ent}(h:EntW e){c:Cmd}:zb8 (yG e) c=((dP e c).1,zfq (dP e c).2)∧((dP e c).1≠0→(dP e c).2=e.s)∧StaW (dP e c).2:=by
 obtain⟨b1,b2,b3,b4,b5,b6,b7⟩:=h.s;unfold zb8 dP;by_cases h3:c.k=3
 ·rw[zuO h3,zuO h3];refine⟨by unfold QY;rw[zau b1];rfl,fun hb=> ?_,⟨?_,b2,b3,b4,b5,b6,b7⟩⟩
  ·show{e.s with book:=(qz e.s.book c.n).2}=e.s;rw[zcT _ _ hb]
  ·show za (qz e.s.book c.n).2=true;rw[zau b1];exact zcR b1
 rw[zuQ h3,zuQ h3];by_cases h4:c.k=4
 ·rw[zuO h4,zuO h4];refine⟨by unfold Q1;rw[zau b2];rfl,fun hb=> ?_,⟨b1,?_,b3,b4,b5,b6,b7⟩⟩
  ·show{e.s with perm:=(qz e.s.perm c.n).2}=e.s;rw[zcT _ _ hb]
  ·show za (qz e.s.perm c.n).2=true;rw[zau b2];exact zcR b2
 rw[zuQ h4,zuQ h4];by_cases h5:c.k=5
 ·rw[zuO h5,zuO h5];have hm:=zqT b4.u b4.nz c.c c.y c.n;have hv:=ztG b4 b5 c.c c.y c.n;refine⟨by dsimp only;rw[show(zdR (yG e).s.reg c.c c.y c.n)=_ from hm];rfl,fun hb=> ?_,⟨b1,b2,b3,hv.1,hv.2,b6,b7⟩⟩;show{e.s with reg:=(jx e.s.reg c.c c.y c.n).2}=e.s;rw[zn9 _ _ _ _ hb]
 rw[zuQ h5,zuQ h5];by_cases h6:c.k=6
 ·rw[zuO h6,zuO h6];have hm:=zjF b4.u b4.nz c.c c.y c.d c.z c.n;have hv:=zma b4 b5 c.c c.y c.d c.z c.n;refine⟨by dsimp only;rw[show(za6 (yG e).s.reg c.c c.y c.d c.z c.n)=_ from hm];rfl,fun hb=> ?_,⟨b1,b2,b3,hv.1,hv.2,b6,b7⟩⟩;show{e.s with reg:=(ya e.s.reg c.c c.y c.d c.z c.n).2}=e.s;rw[zii _ _ _ _ _ _ hb]
 rw[zuQ h6,zuQ h6];by_cases h7:c.k=7
 ·rw[zuO h7,zuO h7];unfold zbD;split
  ·exact⟨rfl,fun h=>absurd rfl h,⟨b1,b2,b3,b4,b5,b6,b7⟩⟩
  ·exact⟨rfl,fun _=>rfl,⟨b1,b2,b3,b4,b5,b6,b7⟩⟩
 rw[zuQ h7,zuQ h7];by_cases h8:c.k=8
 ·rw[zuO h8,zuO h8];unfold zbq zay;split
  ·exact⟨rfl,fun h=>absurd rfl h,⟨b1,b2,b3,b4,b5,b6,b7⟩⟩
  ·exact⟨rfl,fun _=>rfl,⟨b1,b2,b3,b4,b5,b6,b7⟩⟩
 rw[zuQ h8,zuQ h8];exact zjd h c.p c.n
theorem zh3(e:Ent):Qd (yG e)=qH e:=by unfold Qd qH yG;simp only[List.getLast?_map];cases e.cs.getLast? <;>rfl
theorem ztp{e:Ent}(h:EntW e):BalM (qH e):=by
 unfold qH;cases hl:e.cs.getLast? with
 |none=>exact ztN
 |some c=>exact(h.cs c (zxy hl)).2.cl
theorem zoK{l:List Bu}(h:BuV l):BuV (zt ltB l):=h.perm (yB ltB l).symm
theorem zls(t:List Rw)(js:List Jo)(e:Ent):qW t js e=if¬zm (YM e)=true then(8,e,js)
 else
  let m:=YJ t ⟨e.j,YM e,e.s.book,e.s.perm,e.s.judge,e.s.cap,e.s.life,e.s.up⟩ (Qd e) e.s.l e.s.reg
  if m.1≠0 then(m.1,e,js)
  else
   let q:=jq js e.id (YM e) 1 0 (yC m.2.1)
   if q.2.1≠0 then(q.2.1,e,js)
   else(0,{e with s:={e.s with book:=0,perm:=0,up:=0,l:=m.2.2},cs:=e.cs++[⟨e.s,m.2.1,q.1⟩],touched:=e.touched++[false]},q.2.2):=by
 unfold qW;split
 ·rfl
 dsimp only;rcases YJ t ⟨e.j,YM e,e.s.book,e.s.perm,e.s.judge,e.s.cap,e.s.life,e.s.up⟩ (Qd e) e.s.l e.s.reg with⟨a,p,left⟩
 by_cases h0:a=0
 ·subst h0;simp only[ne_eq,not_true_eq_false,if_false];rcases jq js e.id (YM e) 1 0 (yC p) with⟨seq,er,js'⟩
  by_cases h1:er=0
  ·subst h1;rfl
  ·rw[zuO h1];split
   ·rename_i hx;simp only[zuH] at hx;exact absurd hx.2.1 h1
   ·rename_i hx;simp only[zuH] at hx;rw[hx.2.1]
 ·rw[zuO h0];split
  ·rename_i hx;simp only[zuH] at hx;exact absurd hx.1 h0
  ·rename_i hx;simp only[zuH] at hx;rw[hx.1]
theorem zfa{js:List Jo}{id:ByteArray}{p kind of:Int}{l:List Li}(h:(jq js id p kind of l).2.1≠0):(jq js id p kind of l).2.2=js:=by
 rw[zd5] at h⊢;generalize(if kind=2 then noD js id p of else 0)=nn at *;split
 ·rfl
 split
 ·rfl
 split
 ·rfl
 split
 ·rfl
 split
 ·rfl
 ·rename_i a b c d e;rw[zuQ a,zuQ b,zuQ c,zuQ d,zuQ e] at h;exact absurd rfl h
theorem znd{t:List Rw}(ht:zfB t){js:List Jo}(hj:JoV js){e:Ent}(h:EntW e):qW t js (yG e)=((yv t js e).1,yG (yv t js e).2.1,(yv t js e).2.2)∧EntW (yv t js e).2.1∧JoV (yv t js e).2.2:=by
 have hv:=h.v.close t js;have ho:YM (yG e)=yE e.first e.touched:=rfl
 have hM:=ztp h;have hS:=zoK h.s.reg;have hme:=zqM ht ⟨e.j,yE e.first e.touched,e.s.book,e.s.perm,e.s.judge,e.s.cap,e.s.life,e.s.up⟩ hM h.s.lo h.s.ls hS;have hmm:=fun p left=>ztv ht (inp:=⟨e.j,yE e.first e.touched,e.s.book,e.s.perm,e.s.judge,e.s.cap,e.s.life,e.s.up⟩) hM h.s.lo h.s.ls hS (p:=p) (left:=left);have hmk:=zdM t ⟨e.j,yE e.first e.touched,e.s.book,e.s.perm,e.s.judge,e.s.cap,e.s.life,e.s.up⟩ (zcG h.v.l) h.s.lo (rows:=zt ltB e.s.reg) (by rw[zJ];exact h.v.l.rl);rw[zls,ho,zh3];unfold yv at hv⊢;by_cases c1:¬zm (yE e.first e.touched)=true
 ·rw[zuO c1,zuO c1];exact⟨rfl,h,hj⟩
 rw[zuQ c1] at hv;rw[zuQ c1,zuQ c1];have e1:(yG e).s.reg=zt ltB e.s.reg:=rfl;have e2:(⟨(yG e).j,yE e.first e.touched,(yG e).s.book,(yG e).s.perm,(yG e).s.judge,(yG e).s.cap,(yG e).s.life,(yG e).s.up⟩:Inp)=⟨e.j,yE e.first e.touched,e.s.book,e.s.perm,e.s.judge,e.s.cap,e.s.life,e.s.up⟩:=rfl;have e3:(yG e).s.l=e.s.l:=rfl;have e4:(yG e).id=e.id:=rfl;rw[e1,e2,e3,e4];dsimp only at hv⊢;generalize jw t ⟨e.j,yE e.first e.touched,e.s.book,e.s.perm,e.s.judge,e.s.cap,e.s.life,e.s.up⟩ (qH e) e.s.l (zt ltB e.s.reg)=MP at *;generalize YJ t ⟨e.j,yE e.first e.touched,e.s.book,e.s.perm,e.s.judge,e.s.cap,e.s.life,e.s.up⟩ (qH e) e.s.l (zt ltB e.s.reg)=MD at *;obtain⟨m1,m2⟩:=hme;by_cases h0:MD.1=0
 rotate_left
 ·rw[zuO h0,zuO (by rw[m1];exact h0)];rw[m1];exact⟨rfl,h,hj⟩
 obtain rfl:=m2 h0;obtain⟨a,p,left⟩:=MP;simp only at h0;subst h0;obtain⟨k1,k2,k3,k4,k5⟩:=hmm p left rfl;obtain⟨_,_,hlo⟩:=hmk rfl;simp only[ne_eq,not_true_eq_false,if_false] at hv⊢;rw[zhE k1,zkR hj] at hv⊢;by_cases h1:(jq js e.id (yE e.first e.touched) 1 0 (yC p)).2.1=0
 rotate_left
 ·rw[zuO h1,zuO h1,zfa h1];exact⟨rfl,h,hj⟩
 have hp:jq js e.id (yE e.first e.touched) 1 0 (yC p)=((jq js e.id (yE e.first e.touched) 1 0 (yC p)).1,0,(jq js e.id (yE e.first e.touched) 1 0 (yC p)).2.2):=zx3 rfl (zx3 h1 rfl);obtain⟨j1,_,_,_⟩:=zop hj hp;generalize jq js e.id (yE e.first e.touched) 1 0 (yC p)=Q at *;simp only[h1,not_true_eq_false,if_false] at hv⊢;have hcl:=h.v.cl;refine⟨?_,⟨hv,⟨rfl,rfl,rfl,h.s.reg,h.s.ri,hlo,k3⟩,fun c hc=> ?_,fun k hk=> ?_,fun k hk=> ?_⟩,j1⟩
 ·unfold yG;simp only[zvp,zu2,zv9];rfl
 ·rcases zuY.1 hc with hc|hc
  ·exact h.cs c hc
  ·rw[zvm] at hc;subst hc;exact⟨h.s,k1⟩
 ·simp only[zuM,zuS] at hk;simp only;by_cases hkl:k<e.cs.length
  ·rw[zwD hkl];exact h.per k hkl
  ·obtain rfl:k=e.cs.length:=by omega
   rw[List.getElem_append_right (zuL _)];simp[k2,yE];omega
 ·unfold zjK;simp only[zvp,zu2,zv9,zvc,zv5,zwj] at hk⊢;by_cases hkl:k+1<e.touched.length
  ·rw[zuK hkl] at hk;have:=h.reg k hk;unfold zjK at this;have hl:∀i,i<e.touched.length→(e.cs.map (fun c=>c.was.reg)++[e.s.reg,e.s.reg])[i]? =(e.cs.map (fun c=>c.was.reg)++[e.s.reg])[i]? :=fun i hi=>by
    by_cases h2:i<e.cs.length
    ·rw[zuK (by simpa using h2),zuK (by simpa using h2)]
    ·obtain rfl:i=e.cs.length:=by omega
     rw[zuN (by simp),zuN (by simp)];simp
   rw[hl _ hkl,hl _ (by omega)];exact this
  ·have hk2:k+1<(e.touched++[false]).length:=(zuJ.1 hk).1;simp only[zuM,zuS] at hk2;obtain rfl:k=e.cs.length:=by omega
   rw[zuN (by simp),zuN (by simp)];simp
theorem zjN(js:List Jo)(e:Ent):za7 js e=if e.touched.length≤1 then(3,e,js) else if e.touched.getLast? =some true then(8,e,js) else match e.cs.getLast? with
 |none=>(3,e,js)
 |some c=>
  let q:=jq js e.id c.p.inp.p 2 c.seq (yO (yC c.p))
  if q.2.1≠0 then(q.2.1,e,js) else(0,{e with s:=c.was,cs:=e.cs.dropLast,touched:=e.touched.dropLast},q.2.2):=by
 unfold za7;split
 ·rfl
 split
 ·rfl
 cases e.cs.getLast? with
 |none=>rfl
 |some c=>
  dsimp only;rcases jq js e.id c.p.inp.p 2 c.seq (yO (yC c.p)) with⟨seq,er,js'⟩
  by_cases h1:er=0
  ·subst h1;rfl
  ·rw[zuO h1];split
   ·rename_i hx;simp only[zuH] at hx;exact absurd hx.2.1 h1
   ·rename_i hx;simp only[zuH] at hx;rw[hx.2.1]
theorem zgp{p:Pro}(h:ProM p):∀x∈yC p,za x.n=true:=by
 have:=zbI (l:=[⟨1,p.cur.tax⟩,⟨7,p.inp.up⟩,⟨2,-p.cur.tax-p.inp.up⟩,⟨3,p.deferred⟩,⟨4,p.cl.temp-p.op.temp⟩,⟨5,p.cl.loss-p.op.loss⟩,⟨6,p.cl.allow-p.op.allow⟩]);refine zu4.1 (this.2 fun a h1 h2=> ?_);obtain⟨b1,b2,b3,b4,b5,b6,b7,_⟩:=h;have b8:za (-p.cur.tax-p.inp.up)=true:=by simp only[za,zuW] at b3⊢;omega
 have ha:a=1∨a=2∨a=3∨a=4∨a=5∨a=6∨a=7:=by omega
 rcases ha with rfl|rfl|rfl|rfl|rfl|rfl|rfl<;>simp[YP,zbg,b1,b2,b3,b4,b5,b6,b7,b8]
theorem zmc{js:List Jo}(hj:JoV js){e:Ent}(h:EntW e):za7 js (yG e)=((yW js e).1,yG (yW js e).2.1,(yW js e).2.2)∧EntW (yW js e).2.1∧JoV (yW js e).2.2:=by
 have hv:=h.v.reop js;have hcl:=h.v.cl;have hgl:e.touched.getLast? =e.touched[e.touched.length-1]? :=zxf;rw[zjN];unfold yW at hv⊢;have et:(yG e).touched=e.touched:=rfl;rw[et];unfold Yn at hv⊢;by_cases c1:e.touched.length=1
 ·simp only[c1,if_true,ne_eq,show¬(3:Int)=0 by decide,not_false_eq_true,zuL];exact⟨trivial,h,hj⟩
 rw[zuQ (by omega)];by_cases c2:e.touched[e.touched.length-1]? =some true
 ·rw[zuO (by rw[hgl];exact c2)];simp only[c1,c2,if_false,if_true,ne_eq,show¬(8:Int)=0 by decide,not_false_eq_true];exact⟨trivial,h,hj⟩
 rw[zuQ (by rw[hgl];exact c2)];simp only[c1,c2,if_false,ne_eq,not_true_eq_false] at hv⊢;have ec:(yG e).cs.getLast? =e.cs.getLast?.map zi1:=by unfold yG;simp only[List.getLast?_map]
 rw[ec];cases hl:e.cs.getLast? with
 |none=>
  rw[List.getLast?_eq_none_iff] at hl;rw[hl] at hcl;simp at hcl;omega
 |some c=>
  rw[hl] at hv;simp only[zvb] at hv⊢;have hcm:c∈e.cs:=zxy hl;obtain⟨cw,cp⟩:=h.cs c hcm;rw[zhE cp,zoA (zgp cp),zkR hj] at hv⊢;show(if¬(jq js e.id c.p.inp.p 2 c.seq (yO (yC c.p))).2.1=0 then _ else _)=_∧_;by_cases h1:(jq js e.id c.p.inp.p 2 c.seq (yO (yC c.p))).2.1=0
  rotate_left
  ·rw[zuO h1,zuO h1,zfa h1];exact⟨rfl,h,hj⟩
  have hp:jq js e.id c.p.inp.p 2 c.seq (yO (yC c.p))=((jq js e.id c.p.inp.p 2 c.seq (yO (yC c.p))).1,0,(jq js e.id c.p.inp.p 2 c.seq (yO (yC c.p))).2.2):=zx3 rfl (zx3 h1 rfl);obtain⟨j1,_,_,_⟩:=zop hj hp;have hQ:(jq js (yG e).id (zi1 c).p.inp.p 2 (zi1 c).seq (yO (yC (zi1 c).p)))=jq js e.id c.p.inp.p 2 c.seq (yO (yC c.p)):=rfl;rw[hQ];generalize jq js e.id c.p.inp.p 2 c.seq (yO (yC c.p))=Q at *;simp only[h1,not_true_eq_false,if_false] at hv⊢;obtain⟨ys,hys⟩:=zxg.1 hl;have hlen:e.cs.length=ys.length+1:=by rw[hys];simp
  have hf:e.touched[ys.length+1]? =some false:=by
   have h2:ys.length+1<e.touched.length:=by omega
   rw[zuV h2];have c2':¬e.touched[ys.length+1]? =some true:=by rw[show ys.length+1=e.touched.length-1 by omega];exact c2
   rw[zuV h2] at c2';cases hb:e.touched[ys.length+1] with
   |true=>rw[hb] at c2';exact absurd rfl c2'
   |false=>rfl
  have hreg:c.was.reg=e.s.reg:=by have:=h.reg ys.length hf;unfold zjK at this;rw[hys] at this;simp only[zvp,zu2,zv9,zvc,zv5,zwj] at this;rw[zuN (by simp),zuN (by simp)] at this;simp at this;exact this.symm
  have hdl:e.cs.dropLast=ys:=by rw[hys,zxc]
  refine⟨?_,⟨hv,?_,fun x hx=> ?_,fun k hk=> ?_,fun k hk=> ?_⟩,j1⟩
  ·have e1:(yG e).cs.dropLast=e.cs.dropLast.map zi1:=by unfold yG;simp only[List.map_dropLast]
   have e2:e.touched.dropLast=e.touched.take (e.touched.length-1):=List.dropLast_eq_take;rw[e1,e2];unfold yG zi1 zfq;simp only[hreg]
  ·obtain⟨b1,b2,b3,b4,b5,b6,b7⟩:=cw;exact⟨b1,b2,b3,h.s.reg,h.s.ri,b6,b7⟩
  ·simp only[hdl] at hx;exact h.cs x (by rw[hys];exact zvX _ hx)
  ·simp only[hdl] at hk⊢;have:=h.per k (by omega);simp only[hys,zwD hk] at this;exact this
  ·have hk1:k+1<e.touched.length-1:=by
    have:=(zuJ.1 hk).1;simp at this;omega
   simp only at hk;rw[zvh,zuO hk1] at hk;have:=h.reg k hk;unfold zjK at this⊢;rw[hys] at this;simp only[hdl,←hreg];simp only[zvp,zu2,zv9] at this;have hll:∀i,i<ys.length+1→((ys.map (fun c=>c.was.reg)++[c.was.reg])++[e.s.reg])[i]? =(ys.map (fun c=>c.was.reg)++[c.was.reg])[i]? :=fun i hi=>zuK (by simp;omega);rw[hll _ (by omega),hll _ (by omega)] at this;exact this
def zfU(t:List Rw)(js:List Jo)(e:Ent)(c:Cmd):Int×Ent×List Jo:=
 if c.k=11 then qW t js e else if c.k=12 then za7 js e else((Y1 e c).1,(Y1 e c).2,js)
theorem zru{t:List Rw}(ht:zfB t){js:List Jo}(hj:JoV js){e:Ent}(h:EntW e){c:Cmd}(hk:3≤c.k∧c.k≤12∧c.k≠10):zfU t js (yG e) c=((yi t js e c).1,yG (yi t js e c).2.1,(yi t js e c).2.2)∧EntW (yi t js e c).2.1∧JoV (yi t js e c).2.2:=by
 unfold zfU;by_cases h11:c.k=11
 ·rw[zuO h11];have e1:yi t js e c=yv t js e:=by unfold yi;simp[h11]
  rw[e1];exact znd ht hj h
 rw[zuQ h11];by_cases h12:c.k=12
 ·rw[zuO h12];have e1:yi t js e c=yW js e:=by unfold yi;simp[h12]
  rw[e1];exact zmc hj h
 rw[zuQ h12];have hv:=h.v.tell t js c;rw[zrt (by omega)] at hv⊢;obtain⟨d1,d2,d3⟩:=zi2 h (c:=c);rw[znx h d1 d2];exact⟨rfl,zqo h d2 d3 hv,hj⟩
structure GrpW(m:Gm):Prop where
 v:GrpV m
 t:zfB m.t
 j:JoV m.js
 e:∀x∈m.ms,EntW x.2
 un:(m.ms.map (fun x=>x.2.id)).Nodup
 c:Sor ltP m.c
 cm:∀x∈m.c,1≤x.n∧za x.n=true
 fx:∀x∈m.ms,1≤x.2.fx∧x.2.fx≤10000000
 by':∀x∈m.c,(yn m x.b).isSome=true
def qP(m:Gm):Grp:=⟨m.t,m.js,m.ms.map (fun x=>yG x.2),m.c⟩
theorem ztK:GrpW ⟨[],[],[],[]⟩:=⟨ztJ,(fun x h=>by cases h),.nil,(fun x h=>by cases h),.nil,.nil,(fun x h=>by cases h),(fun x h=>by cases h),(fun x h=>by cases h)⟩
theorem JX(m:Gm)(id:ByteArray):JW (qP m) id=(yn m id).map fun x=>yG x.2:=by unfold JW yn qP;simp only[List.find?_map];rfl
theorem add_V{t:List Rw}(h:zfB t)(j:ByteArray)(y r p:Int):zfB (JJ t j y r p).2:=by
 unfold JJ;split
 ·exact h
 rename_i c1;simp only[not_or,Decidable.not_not] at c1;split
 ·exact h
 split
 ·exact h
 ·intro x hx;rcases zuY.1 hx with hx|hx
  ·exact h x hx
  ·rw[zvm] at hx;subst hx;exact c1.2.2.1
theorem zhk{m:Gm}{id:ByteArray}{x:Eo×Ent}(h:yn m id=some x):x∈m.ms∧x.2.id=id:=by
 refine⟨zv7 h,?_⟩;have:=List.find?_some h;unfold zcp at this
 rwa [yj,zuW] at this
theorem zeR{m:Gm}{id:ByteArray}(h:yn m id=none):∀x∈m.ms,x.2.id≠id:=fun x hx e=>by have:=zwC.1 h x hx;unfold zcp at this;rw[yj,zuW] at this;exact this e
theorem zlJ{m:Gm}{id:ByteArray}{x:Eo×Ent}(hx:x∈m.ms)(e:x.2.id=id):(yn m id).isSome=true:=by
 cases h:yn m id with
 |none=>exact absurd e (zeR h x hx)
 |some y=>rfl
theorem ztI{id j:ByteArray}{fx most life first:Int}(h:zm first=true):EntW (qo id j fx most life first):=by refine⟨zoe h,⟨rfl,rfl,rfl,.nil,⟨by simp[qo],(fun b hb=>by simp[qo] at hb),by simp[qo,yL,za]⟩,⟨by simp[qo],(fun v hv=>by simp[qo] at hv),by simp[qo,zx,za],rfl⟩,.nil⟩,(fun c hc=>by simp[qo] at hc),(fun k hk=>by simp[qo] at hk),fun k hk=> ?_⟩;have:=(zuJ.1 hk).1;simp[qo] at this
theorem zqe{m:Gm}(hs:Sor ltP m.c)(hm:∀x∈m.c,1≤x.n∧za x.n=true)(s b:ByteArray)(n:Int):Sor ltP (j9 m.c s b n).2∧∀x∈(j9 m.c s b n).2,(1≤x.n∧za x.n=true)∧(x∈m.c∨x.b=b):=by
 have old:∀x∈m.c,(1≤x.n∧za x.n=true)∧(x∈m.c∨x.b=b):=fun x hx=>⟨hm x hx,.inl hx⟩
 unfold j9;split
 ·exact⟨hs,old⟩
 dsimp only;split
 ·exact⟨hs,old⟩
 rename_i c2;split
 ·exact⟨hs,old⟩
 simp only[not_or,Decidable.not_not] at c2;generalize wr (Yk m.c s b+n)=v at *;refine⟨?_,fun x hx=> ?_⟩
 ·rw[zgI hs];split
  ·exact hs.sublist zwi
  ·rw[zgf];refine ZM zjn (hs.sublist zwi) fun x hx=> ?_;obtain⟨hx1,hx2⟩:=zvx.1 hx;have hn:¬(x.s=s∧x.b=b):=fun e=>by
    unfold Zk at hx2;rw[yj,yj,e.1,e.2] at hx2;simp at hx2
   have:=zjo (a:=⟨s,b,v⟩) (b:=x) (fun e=>hn ⟨e.1.symm,e.2.symm⟩);simpa[zvJ] using this
 ·rw[(yB ltP _).mem_iff] at hx;unfold jQ at hx;dsimp only at hx;split at hx
  ·exact old x (zvx.1 hx).1
  ·rename_i hv;rcases zuY.1 hx with hx|hx
   ·exact old x (zvx.1 hx).1
   ·rw[zvm] at hx;subst hx;exact⟨⟨by simp only;omega,c2.2⟩,.inr rfl⟩
theorem znO(g:Grp)(c:Cmd):zhw g c=if(JW g c.id).isSome then(4,g) else if 4≤g.es.length then(5,g) else if c.x<1∨10000000<c.x then(1,g)
 else if Jq c.id c.j c.r c.y c.p then(0,{g with es:=g.es++[qo c.id c.j c.x c.r c.y c.p]}) else(1,g):=by
 unfold zhw;split
 ·rfl
 split
 ·rfl
 split
 ·rfl
 by_cases h:Jq c.id c.j c.r c.y c.p
 ·rw[zuO h,zuQ]
  ·rfl
  ·unfold Jq zay at h;simp only[zuP] at h;simp[h.1,h.2.1,h.2.2.1.1,h.2.2.1.2,h.2.2.2]
 ·rw[zuQ h,zuO];refine Classical.byContradiction fun h2=>h ?_;simp only[not_or,Decidable.not_not] at h2;exact⟨h2.1,h2.2.1,by unfold zay;rw[h2.2.2.1,h2.2.2.2.1];rfl,h2.2.2.2.2⟩
set_option maxHeartbeats 1000000 in
theorem zqf{m m':Gm}(h:GrpW m){c:Cmd}(hk:1≤c.k∧c.k≤12){r:Int}(hd:zaG m 0 c r m'):doD (qP m) c=(r,qP m')∧GrpW m':=by
 have hv:=h.v.done hd;unfold zaG at hd;rw[zuQ (by simp)] at hd;unfold doD;by_cases k1:c.k=1
 ·rw[zuO k1] at hd⊢;obtain⟨rfl,rfl⟩:=hd;exact⟨rfl,hv,add_V h.t _ _ _ _,h.j,h.e,h.un,h.c,h.cm,h.fx,h.by'⟩
 rw[zuQ k1] at hd⊢;by_cases k2:c.k=2
 ·rw[zuO k2] at hd⊢;obtain⟨rfl,hd⟩:=hd;have hl:(qP m).es.length=m.ms.length:=by unfold qP;simp
  rw[znO,JX,hl];unfold ZN at hd⊢;rw[Option.isSome_map];by_cases c1:(yn m c.id).isSome=true
  ·rw[zuO c1] at hd;rw[zuO c1,zuO c1];simp only at hd;subst hd;exact⟨rfl,h⟩
  rw[zuQ c1] at hd;rw[zuQ c1,zuQ c1];by_cases c2:4≤m.ms.length
  ·rw[zuO c2] at hd;rw[zuO c2,zuO c2];simp only at hd;subst hd;exact⟨rfl,h⟩
  rw[zuQ c2] at hd;rw[zuQ c2,zuQ c2];by_cases c3:c.x<1∨10000000<c.x
  ·rw[zuO c3] at hd;rw[zuO c3,zuO c3];simp only at hd;subst hd;exact⟨rfl,h⟩
  rw[zuQ c3] at hd;rw[zuQ c3,zuQ c3];by_cases c4:Jq c.id c.j c.r c.y c.p
  rotate_left
  ·rw[zuQ c4] at hd;rw[zuQ c4,zuQ c4];simp only at hd;subst hd;exact⟨rfl,h⟩
  rw[zuO c4] at hd;rw[zuO c4,zuO c4];simp only at hd;obtain⟨o',rfl⟩:=hd;have hno:yn m c.id=none:=by
   cases hq:yn m c.id with
   |none=>rfl
   |some x=>rw[hq] at c1;exact absurd rfl c1
  refine⟨?_,hv,h.t,h.j,fun x hx=> ?_,?_,h.c,h.cm,fun x hx=> ?_,fun x hx=> ?_⟩
  ·unfold qP;simp only[zvp,zu2,zv9];rfl
  ·rcases zuY.1 hx with hx|hx
   ·exact h.e x hx
   ·rw[zvm] at hx;subst hx;exact ztI c4.2.2.2
  ·simp only[zvp,zu2,zv9];refine zvW.2 ⟨h.un,by simp,fun a ha b hb e=> ?_⟩;rw[zvm] at hb;subst hb;obtain⟨x,hx,rfl⟩:=zvV.1 ha;exact zeR hno x hx e
  ·rcases zuY.1 hx with hx|hx
   ·exact h.fx x hx
   ·rw[zvm] at hx;subst hx;show 1≤c.x∧c.x≤10000000;omega
  ·have:=h.by' x hx;obtain⟨y,hy⟩:=zv3.1 this;obtain⟨y1,y2⟩:=zhk hy;exact zlJ (zvX _ y1) y2
 rw[zuQ k2] at hd⊢;by_cases k3:c.k=10
 ·rw[zuO k3] at hd⊢;obtain⟨rfl,rfl⟩:=hd;rw[JX,JX,Option.isNone_map,Option.isNone_map];unfold Yf;by_cases c1:(yn m c.id).isNone=true∨(yn m c.id2).isNone=true
  ·rw[zuO c1,zuO c1];exact⟨rfl,h⟩
  rw[zuQ c1,zuQ c1];simp only[not_or,zxU,Option.isNone_eq_false_iff] at c1;have hcv:=zqe (m:=m) h.c h.cm c.id c.id2 c.n;unfold Yf at hv;rw[zuQ (fun hh=>by rcases hh with hh|hh<;>(rw[zxh] at hh;simp[hh] at c1))] at hv;refine⟨?_,hv,h.t,h.j,h.e,h.un,hcv.1,fun x hx=>(hcv.2 x hx).1,h.fx,fun x hx=> ?_⟩
  ·rw[znh h.c (fun x hx=>(h.cm x hx).2)];rfl
  ·rcases(hcv.2 x hx).2 with hx|hx
   ·exact h.by' x hx
   ·rw[hx];exact c1.2
 rw[zuQ k3] at hd⊢;rw[JX];cases hf:yn m c.id with
 |none=>
  rw[hf] at hd;obtain⟨rfl,rfl⟩:=hd;exact⟨rfl,h⟩
 |some x=>
  rw[hf] at hd;obtain⟨rfl,a,b,o',hab,rfl⟩:=hd;obtain⟨hx,hid⟩:=zhk hf;have ht:=zru h.t h.j (h.e x hx) (c:=c) (by omega);have hkeep:=zcn m.t m.js x.2 c;generalize yi m.t m.js x.2 c=T at *;obtain⟨t1,t2,t3⟩:=ht;simp only[zvb];have hput:({zh9 (qP m) (yG T.2.1) with js:=T.2.2}:Grp)=qP {m with js:=T.2.2,ms:=a++(o',T.2.1)::b}:=by
   have hun:=h.un;rw[hab] at hun;simp only[zvp,zu2] at hun;obtain⟨_,hun2,hun3⟩:=zvW.1 hun;have hun4:=List.nodup_cons.1 hun2;have hidT:(yG T.2.1).id=x.2.id:=hkeep.1;have hno:∀y:Eo×Ent,y.2.id≠x.2.id→(if((yG y.2).id==(yG T.2.1).id)=true then yG T.2.1 else yG y.2)=yG y.2:=fun y hy=>by rw[zuQ];rw[hidT,yj,zuW];exact hy
   unfold zh9 qP;simp only[hab,zvp,zu2,zwN];congr 1;congr 1
   ·refine zvo fun y hy=> ?_;refine hno y fun e=>hun3 y.2.id (zwW hy) x.2.id (by simp) e
   ·congr 1
    ·rw[zuO];rw[hidT,yj,zuW];rfl
    ·refine zvo fun y hy=> ?_;refine hno y fun e=>hun4.1 (by rw[←e];exact zwW hy)
  have hW:GrpW {m with js:=T.2.2,ms:=a++(o',T.2.1)::b}:=by
   have hfi:∀id,(yn {m with js:=T.2.2,ms:=a++(o',T.2.1)::b} id).isSome=(yn m id).isSome:=fun id=>by
    unfold yn;simp only[hab,List.find?_append,zxE];have:zcp id (o',T.2.1)=zcp id x:=by unfold zcp;simp only;rw[hkeep.1]
    rw[this];cases a.find? (zcp id) with
    |some y=>rfl
    |none=>
     simp only[Option.none_or];cases zcp id x<;>rfl
   refine⟨hv,h.t,t3,fun y hy=> ?_,?_,h.c,h.cm,fun y hy=> ?_,fun y hy=>by rw[hfi];exact h.by' y hy⟩
   ·rcases zuY.1 hy with hy|hy
    ·exact h.e y (by rw[hab];exact zvX _ hy)
    ·rcases zuX.1 hy with rfl|hy
     ·exact t2
     ·exact h.e y (by rw[hab];exact zwt _ (zvD _ hy))
   ·have:=h.un;rw[hab] at this;simpa[hkeep.1] using this
   ·rcases zuY.1 hy with hy|hy
    ·exact h.fx y (by rw[hab];exact zvX _ hy)
    ·rcases zuX.1 hy with rfl|hy
     ·show 1≤T.2.1.fx∧T.2.1.fx≤10000000;rw[hkeep.2.2.1];exact h.fx x hx
     ·exact h.fx y (by rw[hab];exact zwt _ (zvD _ hy))
  refine⟨?_,hW⟩;unfold zfU at t1;have e1:(qP m).t=m.t:=rfl;have e2:(qP m).js=m.js:=rfl;rw[e1,e2];by_cases k11:c.k=11
  ·rw[zuO k11] at t1⊢;rw[t1];exact zx3 rfl hput
  rw[zuQ k11] at t1⊢;by_cases k12:c.k=12
  ·rw[zuO k12] at t1⊢;rw[t1];exact zx3 rfl hput
  rw[zuQ k12] at t1⊢;simp only[zuH] at t1;obtain⟨s1,s2,s3⟩:=t1;refine zx3 s1 ?_;rw[←hput,←s2,←s3];rfl
def zn8(p:Int)(e:Ent):Bool:=decide (e.first≤p)&& !(Jx e p).isSome
def zcw(s:Grp)(p:Int):Bool:= !s.es.any (zn8 p)
def za8(p:Int):List Ent→List It→Int→Int×List It×Int
 |[],it,d=>(0,it,d)
 |e::l,it,d=>match Jx e p with
  |none=>za8 p l it d
  |some q=>if(jL (Zp q) e.fx).1≠0 then((jL (Zp q) e.fx).1,[],0) else za8 p l (zcS it (jL (Zp q) e.fx).2.1) (wr (d+(jL (Zp q) e.fx).2.2))
def buyG(s:Grp)(b:ByteArray):ByteArray:=match JW s b with
 |some e=>e.j
 |none=>⟨#[]⟩
def zhT(s:Grp)(p:Int)(x:Pa):Int×Int:=yZ s.t (buyG s x.b) p
def zbm(s:Grp)(p:Int):Int×Int:=match s.c.find? fun x=> !((zhT s p x).2==0) with
 |some x=>(0,(zhT s p x).2)
 |none=>zg8 s.c (s.c.map fun x=>(zhT s p x).1)
def Jd(s:Grp)(p:Int):Int×Rep:=
 if¬zm p=true then(1,⟨[],0,0,0⟩)
 else if¬zcw s p=true then(8,⟨[],0,0,0⟩)
 else if(za8 p s.es [] 0).1≠0 then((za8 p s.es [] 0).1,⟨[],0,0,0⟩)
 else if(zbm s p).2≠0 then((zbm s p).2,⟨[],0,0,0⟩)
 else(0,⟨(za8 p s.es [] 0).2.1,(za8 p s.es [] 0).2.2,wr (zex (za8 p s.es [] 0).2.1+(za8 p s.es [] 0).2.2),(zbm s p).1⟩)
theorem zfc{e:Ent}(h:EntW e)(p:Int):qS e p=Jx (yG e) p:=by rw[zfb];exact zkS h.per p
theorem zkW(p:Int):∀(l:List (Eo×Ent)) (it:List It) (d:Int),(∀x∈l,EntW x.2)→QW p l it d=za8 p (l.map fun x=>yG x.2) it d
 |[],it,d,_=>rfl
 |x::l,it,d,h=>by
  have hx:=h x (by simp);have ih:=fun it d=>zkW p l it d fun y hy=>h y (by simp[hy]);rw[zu2];unfold QW za8;rw[←zfc hx];cases hq:qS x.2 p with
  |none=>exact ih it d
  |some q=>
   obtain⟨c,hc,hcp⟩:=QJ hq;have hm:=(hx.cs c hc).2;rw[hcp] at hm;dsimp only;rw[znN hm];have e1:(yG x.2).fx=x.2.fx:=rfl;rw[e1,ih]
theorem zmd{m:Gm}(h:GrpW m)(p:Int):Zx m p=Jd (qP m) p:=by
 have h1:zcx m p=zcw (qP m) p:=by
  unfold zcx zcw qP;simp only[List.any_map];congr 1;rw[zxC,zwF,zwF];have:∀x∈m.ms,zdQ p x=(zn8 p∘fun x=>yG x.2) x:=fun x hx=>by unfold zdQ zn8;simp only[Function.comp];rw[←zfc (h.e x hx)];rfl
  constructor
  ·rintro⟨x,hx,hm⟩;exact⟨x,hx,by rw[←this x hx];exact hm⟩
  ·rintro⟨x,hx,hm⟩;exact⟨x,hx,by rw[this x hx];exact hm⟩
 have h2:QW p m.ms [] 0=za8 p (qP m).es [] 0:=zkW p m.ms [] 0 h.e;have hb:∀b,ziT m b=buyG (qP m) b:=fun b=>by unfold ziT buyG;rw[JX];cases yn m b<;>rfl
 have h3:qV m p=zbm (qP m) p:=by
  have hn:∀x,qI m p x=zhT (qP m) p x:=fun x=>by unfold qI zhT;rw[hb];rfl
  unfold qV zbm;simp only[hn];rfl
 unfold Zx Jd;rw[h1,h2,h3]
section
open CK (Cm fieldsL jz okC zne)
def numP(m:Cm):List (Int×UInt8):=[(m.c,67),(m.d,68),(m.y,89),(m.z,90),(m.p,80),(m.n,65),(m.r,82),(m.x,70)]
def nOk(k:Int)(x:Int×UInt8):Bool:=x.1==0||CK.hasF k x.2
theorem zl6(m:Cm):okC m=(!(fieldsL m.k==[63])&&((if CK.hasF m.k 73 then CK.nameF m.a else m.a.toList.isEmpty)&&(if CK.hasF m.k 75 then CK.nameF m.b else m.b.toList.isEmpty)&&(if CK.hasF m.k 74 then CK.nameF m.j else m.j.toList.isEmpty))&&(numP m).all (nOk m.k)):=by
 have e1:(CK.txtM m).all (CK.good1 m.k)=((if CK.hasF m.k 73 then CK.nameF m.a else m.a.toList.isEmpty)&&(if CK.hasF m.k 75 then CK.nameF m.b else m.b.toList.isEmpty)&&(if CK.hasF m.k 74 then CK.nameF m.j else m.j.toList.isEmpty)):=by show((if CK.hasF m.k 73 then CK.nameF m.a else m.a.toList.isEmpty)&&((if CK.hasF m.k 75 then CK.nameF m.b else m.b.toList.isEmpty)&&((if CK.hasF m.k 74 then CK.nameF m.j else m.j.toList.isEmpty)&&true)))=_;rw[zxm,Bool.and_assoc]
 have e2:(CK.numM m).all (CK.good2 m.k)=(numP m).all (nOk m.k):=rfl;unfold okC;rw[e1,e2];simp only[Bool.and_assoc]
set_option maxRecDepth 20000 in
set_option maxHeartbeats 8000000 in
def cmC(c:Cmd):Cm:=⟨c.k,c.id,c.id2,c.j,c.c,c.d,c.y,c.z,c.p,c.n,c.r,c.x⟩
def okK(c:Cmd):Bool:=okC (cmC c)
theorem zqt(c:Cmd)(g:XH):Cl C (fun _=>False) 24 [.agg (jM c)] g fun u g'=>u=fi (if okK c then 0 else 1)∧g'=g:=
 zqp (vs:=CK.encC (cmC c)) (k:=if okK c then 0 else 1) (F:=zf7) rfl (fun h=>rfl)
end
structure To where
 i:Nat
 st:Nat
 sk:Nat
 r:Nat
 c:Nat
 q:Nat
 a:Nat
 f:Nat
structure Dm where
 t:List Rw
 js:List Jo
 ms:List (To×Ent)
 c:List Pa
def doG(s:Grp)(c:Cmd):Int×Grp:=if okK c then doD s c else(1,s)
theorem okK_k{c:Cmd}(h:okK c=true):1≤c.k∧c.k≤12:=by
 unfold okK CK.okC at h;simp only[zuP,zwR] at h;have h1:=h.1;have hk:(cmC c).k=c.k:=rfl;rw[hk] at h1;refine Classical.byContradiction fun hn=> ?_;have:CK.fieldsL c.k=[63]:=by unfold CK.fieldsL;rw[zuQ (by omega),zuQ (by omega),zuQ (by omega),zuQ (by omega),zuQ (by omega),zuQ (by omega),zuQ (by omega),zuQ (by omega),zuQ (by omega),zuQ (by omega),zuQ (by omega),zuQ (by omega)]
 rw[this] at h1;simp at h1
theorem gDo{g:XH}{o:Gi}{m:Gm}(h:GrpP g o m)(hW:GrpW m)(c:Cmd)(hp:c.p≤9223372036854775807):Cl C (grS o m) 9 [.s (.ptr o.i 0 0),.agg (jM c)] g fun u g'=>∃m',u=fi (doG (qP m) c).1∧qP m'=(doG (qP m) c).2∧GrpS g o m g' m'∧GrpW m':=by
 refine(grpDo h hW.v.l c hp (zqt c)).mono ?_;rintro u g' ⟨r,m',rfl,hS,hd⟩;unfold doG;by_cases hk:okK c=true
 ·rw[zuO hk] at hd⊢;obtain⟨e1,e2⟩:=zqf hW (okK_k hk) hd;exact⟨m',by rw[e1],by rw[e1],hS,e2⟩
 ·rw[zuQ hk] at hd⊢;unfold zaG at hd;rw[zuO (by decide)] at hd;obtain⟨rfl,rfl⟩:=hd;exact⟨_,rfl,rfl,hS,hW⟩
theorem zf8{g:XH}{o:Gi}{m:Gm}(h:GrpP g o m)(hW:GrpW m)(p:Int):Cl C (fun _=>False) 10 [.s (.ptr o.i 0 0),fi p] g fun u g'=>u= .tup [.agg (YZ (Jd (qP m) p).2),fi (Jd (qP m) p).1]∧g'=g:=by
 have:=zlQ h hW.v.l p
 rwa [zmd hW] at this
set_option maxHeartbeats 1000000 in
theorem zcN(v n:Int)(h1:1≤n)(h2:n≤1000000000000):Pure C 8 [fi v,fi n] (fi (v%n)):=by
 refine Pure.intro0 (e:=e8) rfl (zuF rfl) (by simp) fun g Ψ h0 hJ=> ?_;have hm:=Int.emod_nonneg v (show n≠0 by omega);have hl:=Int.emod_lt_of_pos v (show 0<n by omega);have ht:=zxI v (show 0<n by omega);have ht2:=zxK v (show 0<n by omega);have e1:v%n=if v.tmod n<0 then v.tmod n+n else v.tmod n:=by
  have hv:=zxu v n;have e0:v%n=v.tmod n%n:=by
   conv=>lhs;rw[←hv]
   rw[Int.add_comm,Int.add_mul_emod_self_left]
  rw[e0];split
  ·rw[←Int.add_emod_right,Int.emod_eq_of_lt (by omega) (by omega)]
  ·rw[Int.emod_eq_of_lt (by omega) (by omega)]
 have w1:IntKind.i64.wrap (v.tmod n)=v.tmod n:=ze (by omega) (by omega);simp[show¬n<1 by omega,show¬n=0 by omega,w1];refine zc (fun c1=> ?_) (fun c1=> ?_)
 ·simp at c1;have w2:IntKind.i64.wrap (v.tmod n+n)=v.tmod n+n:=ze (by omega) (by omega);rw[zuO c1] at e1;simp[w2];rw[←e1];exact h0
 ·simp at c1;rw[zuQ (by omega)] at e1;simp;rw[←e1];exact h0
def zba:ByteArray:=⟨#[117,107]⟩
def s_a:ByteArray:=⟨#[97]⟩
def s_b:ByteArray:=⟨#[98]⟩
def e_:ByteArray:=⟨#[]⟩
def JR:Cmd:=⟨0,e_,e_,e_,0,0,0,0,0,0,0,0⟩
theorem zdh(c:Cmd):(jM c).length=12:=rfl
theorem Lp.genH{σ:Type}{B:Nat→Prop}{keep:List Nat}{b:EC}{Φ:Ex→XFr→XH→Prop}{fr:XFr}{g:XH}(n:Nat)(V:Nat→σ→List (Nat×XF))(P:Nat→σ→XH→Prop)(s0:σ)(hk:keep.Nodup)(hF:fr.map (·.1)=keep)(h0:fr=qs fr (V 0 s0))(p0:P 0 s0 g)
 (body:∀k (hk:k<n) (s:σ) (g:XH),P k s g→qn g.length (qs fr (V k s))→∀N:XFr→XH→Prop,(∀s' g',P (k+1) s' g'→N (qs fr (V (k+1) s')) g')→wk C B b (qs fr (V k s)) g (KLx N keep Φ))
 (fin:∀s g,P n s g→wk C B b (qs fr (V n s)) g (KLx (fun _ _=>False) keep Φ)):
 Lp C B keep b fr g Φ:=by
 refine Lp.invH hk (fun m fr' g=>∃k s,m=n-k∧k≤n∧P k s g∧fr'=qs fr (V k s)) ?_ n fr g ⟨0,s0,rfl,zws _,p0,h0⟩;rintro m fr' g ⟨k,s,rfl,hkn,hP,rfl⟩ hlt;refine⟨(YQ _ _).trans hF,?_⟩;by_cases hlt2:k<n
 ·exact body k hlt2 s g hP hlt _ fun s' g' hP'=>⟨n-(k+1),by omega,k+1,s',rfl,hlt2,hP',rfl⟩
 ·obtain rfl:k=n:=by omega
  refine ZA (fin s g hP) ?_;intro x fr'' g'' h;cases x with
  |normal=>exact h.elim
  |exit id=>exact h
  |goto l=>exact h
  |ret=>exact h
def zap:Grp→List (Cmd×Int)→Option Grp
 |s,[]=>some s
 |s,(c,e)::l=>if(doG s c).1=e then zap (doG s c).2 l else none
theorem zmg{s z:Grp}{x:Cmd×Int}{l:List (Cmd×Int)}(h:zap s (x::l)=some z):(doG s x.1).1=x.2∧zap (doG s x.1).2 l=some z:=by
 obtain⟨c,e⟩:=x;unfold zap at h;split at h
 ·rename_i h1;exact⟨h1,h⟩
 ·cases h
theorem zfl{s z:Grp}{l:List (Cmd×Int)}{k:Nat}(hk:k<l.length)(h:zap s (l.drop k)=some z):(doG s l[k].1).1=l[k].2∧zap (doG s l[k].1).2 (l.drop (k+1))=some z:=by rw[zvq hk] at h;exact zmg h
theorem Upg.none{g G:XH}(h:Upg (fun _=>False) g G):∃J,G=g++J:=by
 refine⟨G.drop g.length,?_⟩;refine zv0 fun i=> ?_;by_cases hi:i<g.length
 ·rw[zuK hi];exact h.same i hi fun x=>x
 ·rw[zuN (by omega),zvH];congr 1;omega
theorem ghU{W:Nat→Prop}{g G:XH}{Ψ:XF→XH→Prop}{u:XF}(h:Upg (fun _=>False) g G)(hu:lvF g.length u)(hp:Ψ u g):Gh W g Ψ u G:=by obtain⟨J,rfl⟩:=h.none;exact Gh.pure (.lt hu) hp
theorem Upg.setN{g G:XH}(h:Upg (fun _=>False) g G){i:Nat}(hi:g.length≤i)(X:XO):Upg (fun _=>False) g (G.set i X):=⟨by rw[zvi];exact h.le,fun j hj hn=>by rw[zuR (by omega)];exact h.same j hj hn⟩
structure OneK(g0:XH)(z:Grp)(l:List (Cmd×Int))(kp:List (Nat×XO))(g:XH)(o:Gi)(m:Gm):Prop where
 p:GrpP g o m
 w:GrpW m
 u:Upg (fun _=>False) g0 g
 i:∀i∈o.ids++m.ids,g0.length≤i
 r:zap (qP m) l=some z
 k:∀x∈kp,g[x.1]? =some x.2∧x.1∉o.ids++m.ids
theorem OneK.step{g0:XH}{z:Grp}{l:List (Cmd×Int)}{kp:List (Nat×XO)}{g J g':XH}{o:Gi}{m m':Gm}(h:OneK g0 z l kp g o m)(hS:GrpS (g++J) o m g' m')(hW:GrpW m'){l':List (Cmd×Int)}{z':Grp}(hr:zap (qP m') l'=some z'):OneK g0 z' l' kp g' o m':=by
 obtain⟨hP,_,hU,hI,_,hk⟩:=h;have hle:=hS.u.le;simp at hle;refine⟨hS.p,hW,⟨zvz hU.le (by omega),fun j hj hn=> ?_⟩,fun i hi=> ?_,hr,fun x hx=> ?_⟩
 ·have hjG:j<g.length:=zvB hj hU.le;rw[hS.u.same j (by simp;omega) fun hm=>by have:=hI _ hm;omega,zq hjG];exact hU.same j hj hn
 ·rcases zuY.1 hi with hi|hi
  ·exact hI i (zvX _ hi)
  ·rcases hS.n i hi with hi|hi
   ·exact hI i (zwt _ hi)
   ·have:=hU.le;simp at hi;omega
 ·obtain⟨h1,h2⟩:=hk x hx;have lx:=zf h1;refine⟨?_,fun hm=> ?_⟩
  ·rw[hS.u.same x.1 (by simp;omega) h2,zq lx];exact h1
  ·rcases zuY.1 hm with hm|hm
   ·exact h2 (zvX _ hm)
   ·rcases hS.n _ hm with hm|hm
    ·exact h2 (zwt _ hm)
    ·simp at hm;omega
theorem OneK.more{g0:XH}{z:Grp}{l:List (Cmd×Int)}{kp:List (Nat×XO)}{g:XH}{o:Gi}{m:Gm}(h:OneK g0 z l kp g o m)(J:XH)(kp2:List (Nat×XO))(hk:∀x∈kp2,∃k,x.1=g.length+k∧J[k]? =some x.2):OneK g0 z l (kp++kp2) (g++J) o m:=by
 obtain⟨hP,hW,hU,hI,hr,hk0⟩:=h;refine⟨hP.app,hW,⟨by simp;have:=hU.le;omega,fun j hj hn=>by rw[zq (zvB hj hU.le)];exact hU.same j hj hn⟩,hI,hr,fun x hx=> ?_⟩;rcases zuY.1 hx with hx|hx
 ·obtain⟨h1,h2⟩:=hk0 x hx;exact⟨by rw[zq (zf h1)];exact h1,h2⟩
 ·obtain⟨k,e1,e2⟩:=hk x hx;refine⟨by rw[e1,zaQ];exact e2,fun hm=> ?_⟩;have:=hP.lt _ hm;omega
theorem OneK.end_{g0:XH}{z:Grp}{kp:List (Nat×XO)}{g:XH}{o:Gi}{m:Gm}(h:OneK g0 z [] kp g o m):qP m=z:=by have:=h.r;simpa[zap] using this
def JC:List Cmd:=[{JR with k:=1,j:=zba,r:=250000},{JR with k:=2,id:=s_a,j:=zba,x:=2000000},{JR with k:=3,id:=s_a,n:=100},{JR with k:=11,id:=s_a}]
theorem zry:∀c∈JC,c.p≤9223372036854775807:=by decide+kernel
def Yp:Grp:=((zap zhR (JC.map fun c=>(c,(0:Int)))).getD zhR)
theorem zo0:zap zhR (JC.map fun c=>(c,(0:Int)))=some Yp:=by
 have h:(zap zhR (JC.map fun c=>(c,(0:Int)))).isSome=true:=by decide+kernel
 obtain⟨z,hz⟩:=zv3.1 h;unfold Yp;rw[hz];rfl
theorem zmA:Jd zhR 3=(0,⟨[],0,0,0⟩):=by kernel_rfl
theorem zmz:(Jd Yp 0).1=0∧(Jd Yp 0).2.total=50:=by
 have h1:(Jd Yp 0).1=0:=by kernel_rfl
 have h2:(Jd Yp 0).2.total=50:=by kernel_rfl
 exact⟨h1,h2⟩
theorem zof(g J:XH){o:Gi}{z:Grp}{l:List (Cmd×Int)}(h1:∀i∈o.ids,g.length≤i)(hP:GrpP (g++J) o ⟨[],[],[],[]⟩)(hr:zap zhR l=some z):OneK g z l [] (g++J) o ⟨[],[],[],[]⟩:=
 ⟨hP,ztK,Upg.junk,fun i hi=>h1 i (by simpa[Gm.ids] using hi),hr,fun x hx=>by cases hx⟩
set_option maxHeartbeats 1000000 in
theorem zui(g:XH):Cl C (fun _=>False) 12 [] g fun u g'=>u=fb true∧g'=g:=by
 refine Cl.ip rfl (zuF rfl) fun Ψ hΨ=> ?_;simp;refine zb.go (znG _) (fun _ _ h=>h.elim) ?_;rintro u g' ⟨o,J1,h1,rfl,rfl,hP⟩;have hO:=zof g J1 h1 hP zo0;clear hP h1;generalize g++J1=G at *;obtain⟨wo,ho,_⟩:=hO.p.i;have lo:=zf ho;simp[ho,lo];refine zb.go0 (zf8 hO.p hO.w 3) ?_;have e3:Jd (qP ⟨[],[],[],[]⟩) 3=(0,⟨[],0,0,0⟩):=zmA;rw[e3];simp[YZ];refine⟨hO.u.le,?_⟩;have hO2:=fun J=>hO.more ([.own 0 34 4 [QS [],xi 0,xi 0,xi 0],.own 0 28 12 (JC.flatMap jM)]++J) [(G.length,.own 0 34 4 [QS [],xi 0,xi 0,xi 0]),(G.length+1,.own 0 28 12 (JC.flatMap jM))] (fun x hx=>by
  simp only[zuX,zvS,or_false] at hx;rcases hx with rfl|rfl
  ·exact⟨0,rfl,rfl⟩
  ·exact⟨1,rfl,rfl⟩)
 refine Lp.genH (σ:=Gm) JC.length (fun k _=>[(33,fi k)]) (fun k m G'=>OneK g Yp ((JC.map fun c=>(c,(0:Int))).drop k) [(G.length,.own 0 34 4 [QS [],xi 0,xi 0,xi 0]),(G.length+1,.own 0 28 12 (JC.flatMap jM))] G' o m) ⟨[],[],[],[]⟩ (by decide) rfl (by simp) (hO2 []) ?_ ?_
 ·rintro k hk m G' hK hlt N hN;obtain⟨a1,a2,a3⟩:=atX zdh hk;obtain⟨r1,r2⟩:=zfl (by simpa using hk) hK.r;simp only[zxw] at r1 r2;have hp:=zry _ (zvk hk);obtain⟨b1,b2⟩:=hK.k (G.length+1,.own 0 28 12 (JC.flatMap jM)) (by simp);have lb:=zf b1;simp only at b1 lb;generalize JC[k]=c at *;have hk4:k<4:=hk;simp[l12_0,hk4,show(k:Int)<4 by omega,a1,a2,a3,b1,lb];refine⟨hK.u.le,?_⟩;refine zb.go (gDo hK.p.app hK.w c hp) (fun i hi hm=> .inl (hK.i i hm)) ?_;rintro u G2 ⟨m',rfl,e2,hS,hW⟩;rw[r1];simp[yN hk4 (by decide)];exact hN m' G2 (hK.step hS hW (by rw[e2];exact r2))
 ·rintro m G' hK;have hz:=hK.end_;obtain⟨b1,b2⟩:=hK.k (G.length,.own 0 34 4 [QS [],xi 0,xi 0,xi 0]) (by simp);have lb:=zf b1;simp only at b1 lb;simp[l12_0,show JC.length=4 from rfl];refine zb.go0 (zf8 hK.p hK.w 0) ?_;rw[hz];obtain⟨w1,w2⟩:=zmz;rw[w1];have er:YZ (Jd Yp 0).2=[QS (Jd Yp 0).2.items,xi (Jd Yp 0).2.diff,xi 50,xi (Jd Yp 0).2.asset]:=by rw[←w2];rfl
  rw[er];generalize QS (Jd Yp 0).2.items=A;generalize xi (Jd Yp 0).2.diff=A2;generalize xi (Jd Yp 0).2.asset=A3;simp[b1,lb];exact⟨hO.u.le,ghU (hK.u.setN hO.u.le _) (by simp) (hΨ _ _ ⟨rfl,rfl⟩)⟩
def okZ(k:Int)(a b j:ByteArray)(z:List Bool):Bool:=
 !(CK.fieldsL k==[63])&&((if CK.hasF k 73 then CK.nameF a else a.toList.isEmpty)&&(if CK.hasF k 75 then CK.nameF b else b.toList.isEmpty)&&(if CK.hasF k 74 then CK.nameF j else j.toList.isEmpty))&&(z.zip ([67,68,89,90,80,65,82,70]:List UInt8)).all fun x=>x.1||CK.hasF k x.2
theorem okK_Z(c:Cmd):okK c=okZ c.k c.id c.id2 c.j [c.c==0,c.d==0,c.y==0,c.z==0,c.p==0,c.n==0,c.r==0,c.x==0]:=by unfold okK;rw[zl6];rfl
theorem yesK{s:Grp}{c:Cmd}(h:okK c=true):doG s c=doD s c:=by unfold doG;rw[h];rfl
def pa(a:Int):List Pa:=if a=0 then[] else[⟨s_a,s_b,a⟩]
theorem zpJ{s:Grp}{c:Cmd}{z:List Bool}(hz:z=[c.c==0,c.d==0,c.y==0,c.z==0,c.p==0,c.n==0,c.r==0,c.x==0])(h:okZ c.k c.id c.id2 c.j z=true):doG s c=doD s c:=yesK (by rw[okK_Z,←hz];exact h)
theorem yT{n r:Int}(h:qp n r): -500000≤1000000*zd n r-n*r∧1000000*zd n r-n*r≤500000:=by
 unfold zd ofF;rw[zuO h];have e:2*n*r=2*(n*r):=Int.mul_assoc _ _ _;rw[e];have hs:n<0→n*r≤0:=fun hn=>Int.mul_nonpos_of_nonpos_of_nonneg (by omega) h.2.2.1;have hp:0≤n→0≤n*r:=fun hn=>zxd hn h.2.2.1;generalize n*r=x at *;split
 ·rename_i hn;have:=hs hn;have e2:(2*x-1000000)= -(1000000-2*x):=by omega
  rw[e2,Int.neg_tdiv,zv4 (by omega)];omega
 ·have:=hp (by omega);rw[zv4 (by omega)];omega
theorem zq4{n r N R:Int}(h:qp n r)(hN: -N≤n∧n≤N)(hR:0≤r∧r≤R)(h0:0≤N): -(N*R)-500000≤1000000*zd n r∧1000000*zd n r≤N*R+500000:=by have a:=yT h;have b:=ZQ (n:=n) (r:=r) hN hR h0;omega
theorem zh7{n:Int}(h1: -400000000000≤n)(h2:n≤400000000000):zd n 1000000=n:=by have:=yT (n:=n) (r:=1000000) (by unfold qp;omega);omega
def rX:Int:=333333
theorem ZT{n:Int}(h1: -200000≤n)(h2:n≤200000): -100000≤zd n rX∧zd n rX≤100000:=by have:=yT (n:=n) (r:=rX) (by unfold qp rX;omega);unfold rX at *;omega
theorem QI:zd 0 rX=0:=by decide
theorem mX{k:Int}(h1: -100000000000≤k)(h2:k≤100000000000):za k=true:=by unfold za;exact zvZ ⟨h1,h2⟩
def Qp:List Rw:=[⟨zba,0,rX,0⟩]
def QV(m:Int):List Bu:=if m=0 then[] else[⟨1,3,m⟩]
def Qi(m:Int):List Wa:=if m=0 then[] else[⟨1,3,0,m,m⟩]
def QU(m:Int):List Int:=if m=0 then[] else[rX]
def qQ(b p:Int):Inp:=⟨zba,0,b,p,0,500000,4,0⟩
def YL(n:Int):Int:=if n<0 then -n else 0
def zcr(n:Int):Int:=if 0<n then n else 0
def zjl(n:Int):List Vi:=if n<0 then[⟨0,4,-n⟩] else[]
def zcs(n:Int):Res:=⟨n,0,0,YL n,zcr n,zd (zcr n) rX,[]⟩
theorem tax_x{b p m:Int}(b1: -100000≤b)(b2:b≤100000)(p1: -1000≤p)(p2:p≤1000)(m1: -1000≤m)(m2:m≤1000):zcu [] b p m 500000 4 0 rX=(0,zcs (b+p-m),zjl (b+p-m)):=by
 have q1:=mX (k:=b) (by omega) (by omega);have q2:=mX (k:=p) (by omega) (by omega);have q3:=mX (k:=m) (by omega) (by omega);have q4:=mX (k:=b+p-m) (by omega) (by omega);unfold zcu;rw[zuQ (by decide)];simp only[q1,q2,q3,q4,not_true_eq_false,or_self,if_false];generalize hn:b+p-m=n at *;unfold zcs zjl YL zcr;have q5:=mX (k:=0+ -n) (by omega) (by omega);rcases Int.lt_trichotomy n 0 with h|h|h
 ·have e1:zdL [] 0 4 (-n)=(0,[⟨0,4,-n⟩]):=by
   unfold zdL;rw[zuQ (by simp[y5];omega)];simp[zx,znK];simpa using q5
  simp[h,show¬0<n by omega,Q0,zdz,zx,e1]
 ·subst h;simp[Q0,zdz,zx]
 ·simp[h,show¬n<0 by omega,Q0,zdz,zx,zbj,Q6]
theorem zto:zce.filter (fun k=>k.1==1&&k.2==3)=[(1,3)]:=by decide+kernel
theorem ztn:zce.filter (fun k=>false)=[]:=by simp
theorem fwd_x(m:Int):zS [] (QV m)=Qi m:=by
 unfold zS QV Qi;by_cases h:m=0
 ·have e:(fun k:Int×Int=>getD [] k.1 k.2 !=0||getD (if m=0 then[] else[⟨1,3,m⟩]) k.1 k.2 !=0)=fun _=>false:=by
   funext k;simp[h,getD]
  rw[e,ztn];simp[h]
 ·have g:∀c y:Int,getD [⟨1,3,m⟩] c y=if(c==1&&y==3) then m else 0:=fun c y=>by
   by_cases hc:c=1
   ·by_cases hy:y=3
    ·subst hc;subst hy;simp[getD,jm]
    ·simp[getD,jm,hc,hy,Ne.symm hy]
   ·simp[getD,jm,hc,Ne.symm hc]
  have e:(fun k:Int×Int=>getD [] k.1 k.2 !=0||getD (if m=0 then[] else[⟨1,3,m⟩]) k.1 k.2 !=0)=fun k=>k.1==1&&k.2==3:=by funext k;rw[zuQ h,g];have:getD [] k.1 k.2=0:=rfl;rw[this];cases hk:(k.1==1&&k.2==3)<;>simp[h]
  rw[e,zto];simp[h,getD,jm]
def qq(b p m:Int):Pro:=
 ⟨qQ b p,rX,yp,⟨0,QV m,QU m,rX,YL (b+p-m),-zd m rX,zd (YL (b+p-m)) rX,0⟩,zcs (b+p-m),Qi m,QU m,zd m rX,0,-zd (YL (b+p-m)) rX,0,0,
   zd m rX-zd (YL (b+p-m)) rX,zd (zcr (b+p-m)) rX+(zd m rX-zd (YL (b+p-m)) rX)⟩
theorem zjx{n:Int}(h1: -200000≤n)(h2:n≤200000):0≤YL n∧YL n≤200000∧0≤zcr n∧zcr n≤200000:=by unfold YL zcr;split<;>split<;>omega
theorem znZ(n:Int):zx (zjl n)=YL n:=by unfold zx zjl YL;split<;>simp
theorem ztw{b p m:Int}(b1: -100000≤b)(b2:b≤100000)(p1: -1000≤p)(p2:p≤1000)(m1: -1000≤m)(m2:m≤1000):YJ Qp (qQ b p) yp [] (QV m)=(0,qq b p m,zjl (b+p-m)):=by
 have e1:∀b p,jb Qp (qQ b p).j (Int.tdiv (qQ b p).p 4) (qQ b p).p=some rX:=fun b p=>by kernel_rfl
 have e2:∀b p,yZ Qp (qQ b p).j (qQ b p).p=(rX,0):=fun b p=>by kernel_rfl
 have e3:zS yp.b (QV m)=Qi m:=fwd_x m;have e4:jb Qp zba 3 0=some rX:=by kernel_rfl
 have e5:zO Qp (qQ b p).j (qQ b p).p ((QV m).map (·.y))=some (QU m):=by
  unfold QV QU;by_cases h:m=0
  ·simp[h,zO]
  ·have e4':jb Qp (qQ b p).j (max 3 (Int.tdiv (qQ b p).p 4)) (qQ b p).p=some rX:=e4;simp[h,zO,e4']
 have e6:zO Qp (qQ b p).j (qQ b p).p ((Qi m).map (·.y))=some (QU m):=by rw[←e5];unfold QV Qi;by_cases h:m=0<;>simp[h]
 have c1:∀b p,¬(¬zm (qQ b p).p=true∨¬zn (qQ b p).judge=true∨¬za (qQ b p).up=true):=fun b p=>by show¬(¬zm 0=true∨¬zn 0=true∨¬za 0=true);decide+kernel
 have e7:((Qi m).map (·.m)).sum=m:=by unfold Qi;by_cases h:m=0<;>simp[h]
 have e8:jg (QV m) (QU m)= -zd m rX:=by
  unfold QV QU;by_cases h:m=0
  ·subst h;simp[jg,QI]
  ·simp[h,jg]
 have e9:yy (Qi m) (QU m)=zd m rX:=by
  unfold Qi QU;by_cases h:m=0
  ·subst h;simp[yy,QI]
  ·simp[h,yy,QI]
 have e10:yw (Qi m) (yA yp (Qi m) (QU m)) (QU m)=0:=by
  unfold Qi QU;by_cases h:m=0
  ·subst h;simp[yw]
  ·simp[h,yw,yA,ZS,yp,QI]
 obtain⟨n1,n2,n3,n4⟩:=zjx (n:=b+p-m) (by omega) (by omega);have a1:=ZT (n:=m) (by omega) (by omega);have a2:=ZT (n:=YL (b+p-m)) (by omega) (by omega);have a3:=ZT (n:=zcr (b+p-m)) (by omega) (by omega);have a4:0≤zd (YL (b+p-m)) rX:=zh6 n1;have t:zcu [] (qQ b p).book (qQ b p).perm m (qQ b p).cap (qQ b p).life (Int.tdiv (qQ b p).p 4) rX=(0,zcs (b+p-m),zjl (b+p-m)):=tax_x b1 b2 p1 p2 m1 m2;have q1:zd 0 0=0:=by decide
 have s1:zk (YL (b+p-m)) rX=(zd (YL (b+p-m)) rX,0):=by unfold zk;rw[zuO ⟨n1,by omega,by decide⟩]
 have q2:∀n,qp n 0→zd n 0=0:=fun n h=>by have:=yT h;rw[Int.mul_zero] at this;omega
 have s2:zk (zd (YL (b+p-m)) rX) (qQ b p).judge=(0,0):=by unfold zk;rw[zuO ⟨a4,by omega,by show zn 0=true;decide⟩];show(zd _ 0,(0:Int))=_;rw[q2 _ (by unfold qp;omega)]
 unfold YJ;rw[zuQ (c1 _ _)];simp only[e1,e2,e3,e5,e7,t,e8,znZ,s1,s2,e6,e9];rw[show yA yp (Qi m) (QU m)=yA yp (Qi m) (QU m) from rfl,e10];have z1:(yp.left:Int)=0:=rfl;have z2:(yp.next:Int)=0:=rfl;have z3:(yp.loss:Int)=0:=rfl;have z4:(yp.allow:Int)=0:=rfl;have z5:(yp.temp:Int)=0:=rfl;have z6:(zcs (b+p-m)).tax=zd (zcr (b+p-m)) rX:=rfl;have z7:(qQ b p).up=0:=rfl;rw[zuQ (by rw[mX (by omega) (by omega)];simp),zuQ (by rw[mX (by omega) (by omega)];decide)];simp only[z1,z2,z3,z4,z5,z6,z7,q1,QI];have k0:za 0=true:=by decide
 have hall:∀l:List Int,(∀x∈l,-100000000000≤x∧x≤100000000000)→l.all za=true:=fun l h=>zu4.2 fun x hx=>mX (h x hx).1 (h x hx).2;rw[zuO (hall _ (fun x hx=>by
  simp only[zuX,zvS,or_false] at hx;rcases hx with rfl|rfl|rfl|rfl|rfl|rfl|rfl|rfl|rfl<;>omega))]
 unfold qq;simp only[Int.sub_zero,zxH,Int.zero_sub,Int.neg_zero,Int.sub_self,zwz,zw2];rfl
theorem zme:∀{l:List Li} {a c:Int},a≤c→yF c l=true→yF a l=true
 |[],_,_,_,_=>rfl
 |x::l,a,c,h,hr=>by simp only[yF,zuP,zuW] at hr⊢;exact⟨⟨⟨by omega,hr.1.1.2⟩,hr.1.2⟩,hr.2⟩
theorem zd9:∀{l:List Li} {a:Int},l.Pairwise (fun x y=>x.a<y.a)→(∀x∈l,a<x.a∧x.a≤7∧za x.n=true)→yF a (l.filter fun x=>x.n !=0)=true
 |[],_,_,_=>rfl
 |x::l,a,hp,h=>by
  obtain⟨p1,p2⟩:=zu7.1 hp;have hx:=h x (by simp);have ih:=zd9 (l:=l) (a:=x.a) p2 fun y hy=>⟨p1 y hy,(h y (by simp[hy])).2⟩
  rw[zwq];cases hn:(x.n !=0) with
  |false=>simp;exact zme (by omega) ih
  |true=>simp[yF,hn,hx,ih]
theorem zk3:∀(l:List Li),((l.filter fun x=>x.n !=0).map (·.n)).sum=(l.map (·.n)).sum
 |[]=>rfl
 |x::l=>by
  have ih:=zk3 l;rw[zwq];cases hn:(x.n !=0) with
  |false=>simp at hn;simp[ih,hn]
  |true=>simp[ih]
def zbh(l:List Li):List Li:=[⟨1,yK l 1⟩,⟨2,yK l 2⟩,⟨3,yK l 3⟩,⟨4,yK l 4⟩,⟨5,yK l 5⟩,⟨6,yK l 6⟩,⟨7,yK l 7⟩]
theorem Y8(l:List Li):jB l=(zbh l).filter fun x=>x.n !=0:=rfl
theorem zub(l:List Li):(zbh l).Pairwise fun x y=>x.a<y.a:=by simp[zbh]
theorem zj0(l:List Li):∀x∈zbh l,0<x.a∧x.a≤7∧x.n=yK l x.a:=fun x hx=>by simp only[zbh,zuX,zvS,or_false] at hx;rcases hx with rfl|rfl|rfl|rfl|rfl|rfl|rfl<;>exact⟨by simp,by simp,rfl⟩
theorem zl1{l:List Li}(hm:∀x∈zbh l,za x.n=true)(hs:((zbh l).map (·.n)).sum=0):yh (jB l)=true:=by
 have h1:yF 0 (jB l)=true:=by
  rw[Y8];exact zd9 (zub l) fun x hx=>⟨(zj0 l x hx).1,(zj0 l x hx).2.1,hm x hx⟩
 have h2:(jB l).length≤7:=by rw[Y8];exact zv6 _ _
 have h3:((jB l).map (·.n)).sum=0:=by rw[Y8,zk3,hs]
 unfold yh;simp only[h1,h3];simp;omega
theorem zhO{l:List Li}(h:yF 0 l=true):(jB l).all (fun x=>za x.n)=true:=by
 refine zu4.2 fun x hx=> ?_;rw[Y8] at hx;obtain⟨h1,h2⟩:=zvx.1 hx;obtain⟨_,_,e⟩:=zj0 l x h1;rw[e] at h2⊢;cases hf:l.filter (fun y=>y.a==x.a) with
 |nil=>
  have:yK l x.a=0:=by unfold yK;rw[hf];rfl
  rw[this];decide
 |cons y r=>
  have hy:y∈l.filter (fun y=>y.a==x.a):=by rw[hf];simp
  obtain⟨y1,y2⟩:=zvx.1 hy;have:yK l y.a=y.n:=Je h y y1;rw[←(by simpa using y2:y.a=x.a),this];exact jP _ _ h y y1
theorem ztT{l:List Li}(h:yh l=true):jq [] s_a 0 1 0 l=(1,0,[⟨1,s_a,0,1,0,l⟩]):=by
 have c1:¬(s_a.size=0∨¬zm 0=true∨((1:Int)≠1∧(1:Int)≠2)∨((1:Int)=1∧(0:Int)≠0)):=by decide+kernel
 have m:=zhO (ZB h).2.1;unfold jq;rw[zuQ c1];simp[h,ofJ];simpa using m
theorem zqH{b p m:Int}(b1: -100000≤b)(b2:b≤100000)(p1: -1000≤p)(p2:p≤1000)(m1: -1000≤m)(m2:m≤1000):yh (yC (qq b p m))=true:=by
 obtain⟨n1,n2,n3,n4⟩:=zjx (n:=b+p-m) (by omega) (by omega);have a1:=ZT (n:=m) (by omega) (by omega);have a2:=ZT (n:=YL (b+p-m)) (by omega) (by omega);have a3:=ZT (n:=zcr (b+p-m)) (by omega) (by omega);unfold yC;refine zl1 (fun x hx=> ?_) ?_
 ·simp[zbh,yK,qq,zcs,qQ,yp] at hx;rcases hx with rfl|rfl|rfl|rfl|rfl|rfl|rfl<;>exact mX (by simp only;omega) (by simp only;omega)
 ·simp[zbh,yK,qq,zcs,qQ,yp];omega
def staX(b p m:Int):Sta:=⟨b,p,0,500000,4,0,QV m,[],[]⟩
def zf0(f b p m:Int):Ent:=⟨s_a,zba,f,0,[true],staX b p m,[]⟩
def zlr(f b p m:Int):Ent:=⟨s_a,zba,f,0,[true,false],⟨0,0,0,500000,4,0,QV m,zjl (b+p-m),[]⟩,[⟨staX b p m,qq b p m,1⟩]⟩
theorem zp8{f b p m:Int}(b1: -100000≤b)(b2:b≤100000)(p1: -1000≤p)(p2:p≤1000)(m1: -1000≤m)(m2:m≤1000):qW Qp [] (zf0 f b p m)=(0,zlr f b p m,[⟨1,s_a,0,1,0,yC (qq b p m)⟩]):=by
 have mk:=ztw b1 b2 p1 p2 m1 m2;have o0:YM (zf0 f b p m)=0:=rfl;unfold qW;rw[o0,zuQ (by decide)]
 show(match YJ Qp (qQ b p) yp [] (QV m) with
  |(0,p,left)=>_
  |(er,_,_)=>_)=_
 rw[mk]
 show(match jq [] s_a 0 1 0 (yC (qq b p m)) with
  |(seq,0,js')=>_
  |(_,er,_)=>_)=_
 rw[ztT (zqH b1 b2 p1 p2 m1 m2)];rfl
def fxC(f b p m:Int):List Cmd:=[{JR with k:=1,j:=zba,r:=333333},{JR with k:=2,id:=s_a,j:=zba,r:=500000,y:=4,x:=f},{JR with k:=3,id:=s_a,n:=b},{JR with k:=4,id:=s_a,n:=p},{JR with k:=5,id:=s_a,c:=1,y:=3,n:=m},{JR with k:=11,id:=s_a}]
theorem doDe{g:Grp}{m:Cmd}{e:Ent}(h3:3≤m.k∧m.k≤9)(hf:JW g m.id=some e):doD g m=((Y1 e m).1,zh9 g (Y1 e m).2):=by unfold doD;rw[zuQ (by omega),zuQ (by omega),zuQ (by omega),hf];simp only;rw[zuQ (by omega),zuQ (by omega)]
theorem doDc{g:Grp}{m:Cmd}{e:Ent}(h3:m.k=11)(hf:JW g m.id=some e):doD g m=((qW g.t g.js e).1,{zh9 g (qW g.t g.js e).2.1 with js:=(qW g.t g.js e).2.2}):=by unfold doD;rw[zuQ (by omega),zuQ (by omega),zuQ (by omega),hf];simp only;rw[zuO h3]
theorem zjb{e:Ent}{m:Cmd}{s:Sta}(hp:zm (YM e)=true)(h:zb8 e m=(0,s)):Y1 e m=(0,{e with s:=s,touched:=zbc e.touched}):=by unfold Y1;rw[zuQ (by rw[hp];simp)];simp only[h]
theorem zmY{s n:Int}(h1: -100000000000≤n∧n≤100000000000)(h2: -100000000000≤s+n∧s+n≤100000000000):zcQ s n=(0,s+n):=by unfold zcQ;rw[zuQ (by rw[mX h1.1 h1.2];simp),zuQ (by rw[mX h2.1 h2.2];simp)]
def ent0(f:Int):Ent:=⟨s_a,zba,f,0,[false],⟨0,0,0,500000,4,0,[],[],[]⟩,[]⟩
def zhi(f b p:Int):Ent:=⟨s_a,zba,f,0,[true],⟨b,p,0,500000,4,0,[],[],[]⟩,[]⟩
abbrev grX(e:Ent):Grp:=⟨Qp,[],[e],[]⟩
def zi7(f b p m:Int):Grp:=⟨Qp,[⟨1,s_a,0,1,0,yC (qq b p m)⟩],[zlr f b p m],[]⟩
theorem do2{f:Int}(f1:1≤f)(f2:f≤10000000):doG ⟨Qp,[],[],[]⟩ {JR with k:=2,id:=s_a,j:=zba,r:=500000,y:=4,x:=f}=(0,grX (ent0 f)):=by
 have z:(f==0)=false:=by simp;omega
 rw[zpJ (z:=[true,true,false,true,true,true,false,f==0]) rfl (by rw[z];kernel_rfl)];have e1:∀(s:Grp) (c:Cmd),c.k=2→doD s c=zhw s c:=fun s c h=>by unfold doD;rw[zuQ (by omega),zuO h]
 rw[e1 _ _ rfl];unfold zhw;rw[zuQ (by show¬(JW ⟨Qp,[],[],[]⟩ s_a).isSome=true;decide),zuQ (by decide),zuQ (by show¬(f<1∨10000000<f);omega),zuQ (by show¬(s_a.size=0∨zba.size=0∨¬zn 500000=true∨¬y5 4=true∨¬zm 0=true);decide+kernel)];rfl
theorem ztH{m:Int}(m1: -1000≤m)(m2:m≤1000):zdR [] 1 3 m=(0,QV m):=by
 have q:=mX (k:=m) (by omega) (by omega);have g0:getD [] 1 3=0:=rfl;have t0:yL []=0:=rfl;unfold zdR;rw[zuQ (by rw[q];decide),g0,t0,zwz,zuQ (by rw[q];decide)];unfold QV zgM;by_cases h:m=0
 ·simp[h]
 ·simp[h,znI]
theorem ztc{f b p m:Int}(f1:1≤f)(f2:f≤10000000)(b1: -100000≤b)(b2:b≤100000)(p1: -1000≤p)(p2:p≤1000)(m1: -1000≤m)(m2:m≤1000):zap zhR ((fxC f b p m).map fun c=>(c,(0:Int)))=some (zi7 f b p m):=by
 have c1:doG zhR {JR with k:=1,j:=zba,r:=333333}=(0,⟨Qp,[],[],[]⟩):=by kernel_rfl
 have c3:doG (grX (ent0 f)) {JR with k:=3,id:=s_a,n:=b}=(0,grX (zhi f b 0)):=by
  rw[zpJ (z:=[true,true,true,true,true,b==0,true,true]) rfl (by cases b==0<;>kernel_rfl),doDe (e:=ent0 f) (by simp) (by kernel_rfl),zjb (s:=⟨b,0,0,500000,4,0,[],[],[]⟩) (by kernel_rfl) ?_]
  ·kernel_rfl
  ·unfold zb8;rw[zuO (by rfl),show zcQ (ent0 f).s.book _=(0,0+b) from zmY (by show _≤b∧b≤_;omega) (by show _≤0+b∧0+b≤_;omega),zwz];rfl
 have c4:doG (grX (zhi f b 0)) {JR with k:=4,id:=s_a,n:=p}=(0,grX (zhi f b p)):=by
  rw[zpJ (z:=[true,true,true,true,true,p==0,true,true]) rfl (by cases p==0<;>kernel_rfl),doDe (e:=zhi f b 0) (by simp) (by kernel_rfl),zjb (s:=⟨b,p,0,500000,4,0,[],[],[]⟩) (by kernel_rfl) ?_]
  ·kernel_rfl
  ·unfold zb8;rw[zuQ (by simp),zuO (by rfl),show zcQ (zhi f b 0).s.perm _=(0,0+p) from zmY (by show _≤p∧p≤_;omega) (by show _≤0+p∧0+p≤_;omega),zwz];rfl
 have c5:doG (grX (zhi f b p)) {JR with k:=5,id:=s_a,c:=1,y:=3,n:=m}=(0,grX (zf0 f b p m)):=by
  rw[zpJ (z:=[false,true,false,true,true,m==0,true,true]) rfl (by cases m==0<;>kernel_rfl),doDe (e:=zhi f b p) (by simp) (by kernel_rfl),zjb (s:=staX b p m) (by kernel_rfl) ?_]
  ·kernel_rfl
  ·unfold zb8;rw[zuQ (by simp),zuQ (by simp),zuO (by rfl),show zdR (zhi f b p).s.reg _ _ _=(0,QV m) from ztH m1 m2];rfl
 have c6:doG (grX (zf0 f b p m)) {JR with k:=11,id:=s_a}=(0,zi7 f b p m):=by
  rw[zpJ (z:=[true,true,true,true,true,true,true,true]) rfl (by kernel_rfl),doDc (e:=zf0 f b p m) rfl (by kernel_rfl)];show((qW Qp [] (zf0 f b p m)).1,{zh9 (grX (zf0 f b p m)) (qW Qp [] (zf0 f b p m)).2.1 with js:=(qW Qp [] (zf0 f b p m)).2.2})=_;rw[zp8 b1 b2 p1 p2 m1 m2]
  kernel_rfl
 unfold fxC;simp only[zu2,zv9,zap,c1,do2 f1 f2,c3,c4,c5,c6,if_true]
def itX(b p m:Int):List It:=Zp (qq b p m)
theorem zgi{b p m:Int}(b1: -100000≤b)(b2:b≤100000)(p1: -1000≤p)(p2:p≤1000)(m1: -1000≤m)(m2:m≤1000):∃a1 a2 a3 a4 a5 a6 a7 a8:Int,itX b p m=[⟨1,a1⟩,⟨2,a2⟩,⟨3,a3⟩,⟨4,a4⟩,⟨5,a5⟩,⟨6,a6⟩,⟨7,a7⟩,⟨8,a8⟩]∧(∀x∈itX b p m,-2000000≤x.n∧x.n≤2000000)∧qc (itX b p m)=(qq b p m).total∧(-300000≤(qq b p m).total∧(qq b p m).total≤300000):=by
 obtain⟨n1,n2,n3,n4⟩:=zjx (n:=b+p-m) (by omega) (by omega);have u1:=ZT (n:=m) (by omega) (by omega);have u2:=ZT (n:=YL (b+p-m)) (by omega) (by omega);have u3:=ZT (n:=zcr (b+p-m)) (by omega) (by omega);have u4:=ZT (n:=b) (by omega) (by omega);have u5:=ZT (n:=p) (by omega) (by omega);have u6:jC rX (Qi m) (QU m)=0:=by
  unfold Qi QU;by_cases h:m=0
  ·simp[h,jC]
  ·simp[h,jC]
 have ht:(qq b p m).total=zd (zcr (b+p-m)) rX+(zd m rX-zd (YL (b+p-m)) rX):=rfl;refine⟨_,_,_,_,_,_,_,_,rfl,fun x hx=> ?_,?_,by rw[ht];omega⟩
 ·simp[itX,Zp,qq,zcs,qQ,u6,QI] at hx;rcases hx with rfl|rfl|rfl|rfl|rfl|rfl|rfl|rfl<;>simp only<;>omega
 ·unfold qc itX Zp;generalize(qq b p m).total=T;simp only[zvp,zwJ,zu2,zv9,zwm,List.sum_nil];omega
def itF(f b p m:Int):List It:=(itX b p m).map fun x=>y8 x f
def dfX(f b p m:Int):Int:=zd (qq b p m).total f-qc (itF f b p m)
theorem zsR{f b p m:Int}(f1:1≤f)(f2:f≤10000000)(b1: -100000≤b)(b2:b≤100000)(p1: -1000≤p)(p2:p≤1000)(m1: -1000≤m)(m2:m≤1000):jL (itX b p m) f=(0,itF f b p m,dfX f b p m):=by
 obtain⟨a1,a2,a3,a4,a5,a6,a7,a8,e,hb,hs,ht⟩:=zgi b1 b2 p1 p2 m1 m2;unfold jL;rw[zuQ (by rw[e];simp;omega),zuQ (by
  rw[zu4.2 fun x hx=>by have:=hb x hx;unfold Ju;exact zvZ (by omega)];simp),hs,zuQ (by unfold qp;omega)]
 rfl
theorem zaO{f n:Int}(f1:1≤f)(f2:f≤10000000)(n1: -2000000≤n)(n2:n≤2000000): -30000000≤zd n f∧zd n f≤30000000:=by have:=zq4 (n:=n) (r:=f) (N:=2000000) (R:=10000000) (by unfold qp;omega) (by omega) (by omega) (by omega);omega
theorem add_x{a1 a2 a3 a4 a5 a6 a7 a8:Int}(h:∀x∈[a1,a2,a3,a4,a5,a6,a7,a8],wr x=x):zcS [] [⟨1,a1⟩,⟨2,a2⟩,⟨3,a3⟩,⟨4,a4⟩,⟨5,a5⟩,⟨6,a6⟩,⟨7,a7⟩,⟨8,a8⟩]=[⟨1,a1⟩,⟨2,a2⟩,⟨3,a3⟩,⟨4,a4⟩,⟨5,a5⟩,⟨6,a6⟩,⟨7,a7⟩,⟨8,a8⟩]:=by simp only[zuX,zvS,or_false,forall_eq_or_imp,forall_eq] at h;obtain⟨e1,e2,e3,e4,e5,e6,e7,e8⟩:=h;unfold zcS;simp[QP,za5,zgm,e1,e2,e3,e4,e5,e6,e7,e8,zt,ZL,ltT]
theorem zsr{f b p m:Int}(f1:1≤f)(f2:f≤10000000)(b1: -100000≤b)(b2:b≤100000)(p1: -1000≤p)(p2:p≤1000)(m1: -1000≤m)(m2:m≤1000):Jd (zi7 f b p m) 0=(0,⟨itF f b p m,dfX f b p m,zd (qq b p m).total f,0⟩)∧-9≤2*dfX f b p m∧2*dfX f b p m≤9:=by
 obtain⟨a1,a2,a3,a4,a5,a6,a7,a8,e,hb,hs,ht⟩:=zgi b1 b2 p1 p2 m1 m2;have hc:=zsR f1 f2 b1 b2 p1 p2 m1 m2;have eF:itF f b p m=[⟨1,zd a1 f⟩,⟨2,zd a2 f⟩,⟨3,zd a3 f⟩,⟨4,zd a4 f⟩,⟨5,zd a5 f⟩,⟨6,zd a6 f⟩,⟨7,zd a7 f⟩,⟨8,zd a8 f⟩]:=by unfold itF;rw[e];rfl
 rw[e] at hb hs;simp only[zuX,zvS,or_false,forall_eq_or_imp,forall_eq] at hb;obtain⟨v1,v2,v3,v4,v5,v6,v7,v8⟩:=hb;have w1:=zaO f1 f2 v1.1 v1.2;have w2:=zaO f1 f2 v2.1 v2.2;have w3:=zaO f1 f2 v3.1 v3.2;have w4:=zaO f1 f2 v4.1 v4.2;have w5:=zaO f1 f2 v5.1 v5.2;have w6:=zaO f1 f2 v6.1 v6.2;have w7:=zaO f1 f2 v7.1 v7.2;have w8:=zaO f1 f2 v8.1 v8.2;have w0:=zaO (n:=(qq b p m).total) f1 f2 (by omega) (by omega);have k:∀n:Int,-2000000≤n→n≤2000000→qp n f:=fun n h1 h2=>by unfold qp;omega
 have x1:=yT (k a1 v1.1 v1.2);have x2:=yT (k a2 v2.1 v2.2);have x3:=yT (k a3 v3.1 v3.2);have x4:=yT (k a4 v4.1 v4.2);have x5:=yT (k a5 v5.1 v5.2);have x6:=yT (k a6 v6.1 v6.2);have x7:=yT (k a7 v7.1 v7.2);have x8:=yT (k a8 v8.1 v8.2);have x0:=yT (k (qq b p m).total (by omega) (by omega));have hd:dfX f b p m=zd (qq b p m).total f-(zd a1 f+(zd a2 f+(zd a3 f+(zd a4 f+(zd a5 f+(zd a6 f+(zd a7 f+zd a8 f))))))):=by unfold dfX;rw[eF];simp[qc]
 have hs2:(qq b p m).total*f=a1*f+a2*f+a3*f+a4*f+a5*f+a6*f+a7*f+a8*f:=by rw[←hs];simp[qc,Int.add_mul];omega
 have ws:∀n:Int,-300000000000≤n→n≤300000000000→wr n=n:=fun n h1 h2=>ze (by omega) (by omega);have hw:wr (zex (itF f b p m)+dfX f b p m)=zd (qq b p m).total f:=by
  have:zex (itF f b p m)=zd a1 f+zd a2 f+zd a3 f+zd a4 f+zd a5 f+zd a6 f+zd a7 f+zd a8 f:=by rw[eF];simp only[zex,zwv,List.foldl_nil,zwz];rw[ws (zd a1 f) (by omega) (by omega),ws (zd a1 f+zd a2 f) (by omega) (by omega),ws (zd a1 f+zd a2 f+zd a3 f) (by omega) (by omega),ws (zd a1 f+zd a2 f+zd a3 f+zd a4 f) (by omega) (by omega),ws (zd a1 f+zd a2 f+zd a3 f+zd a4 f+zd a5 f) (by omega) (by omega),ws (zd a1 f+zd a2 f+zd a3 f+zd a4 f+zd a5 f+zd a6 f) (by omega) (by omega),ws (zd a1 f+zd a2 f+zd a3 f+zd a4 f+zd a5 f+zd a6 f+zd a7 f) (by omega) (by omega),ws (zd a1 f+zd a2 f+zd a3 f+zd a4 f+zd a5 f+zd a6 f+zd a7 f+zd a8 f) (by omega) (by omega)]
  rw[this,hd,ws _ (by omega) (by omega)];omega
 refine⟨?_,by omega,by omega⟩;have c1:zcw (zi7 f b p m) 0=true:=by kernel_rfl
 have pv:Jx (zlr f b p m) 0=some (qq b p m):=by kernel_rfl
 have ef:(zlr f b p m).fx=f:=rfl;have ea:zbm (zi7 f b p m) 0=(0,0):=by kernel_rfl
 have hadd:zcS [] (itF f b p m)=itF f b p m:=by rw[eF];refine add_x fun x hx=> ?_;simp only[zuX,zvS,or_false] at hx;rcases hx with rfl|rfl|rfl|rfl|rfl|rfl|rfl|rfl<;>exact ws _ (by omega) (by omega)
 have hr:za8 0 [zlr f b p m] [] 0=(0,itF f b p m,dfX f b p m):=by unfold za8;rw[pv];simp only[ef];rw[show Zp (qq b p m)=itX b p m from rfl,hc];simp only[hadd];rw[zwz,ws (dfX f b p m) (by omega) (by omega)];simp[za8]
 unfold Jd;rw[zuQ (by decide),zuQ (by rw[c1];simp)];rw[show(zi7 f b p m).es=[zlr f b p m] from rfl];simp only[hr,ea];simp only[ne_eq,not_true_eq_false,if_false,hw]
theorem fxC_p{f b p m:Int}:∀c∈fxC f b p m,c.p≤9223372036854775807:=fun c hc=>by simp only[fxC,zuX,zvS,or_false] at hc;rcases hc with rfl|rfl|rfl|rfl|rfl|rfl<;>simp only[JR]<;>omega
set_option maxHeartbeats 1000000 in
theorem zhz{n r:Int}(h1:0≤n)(h2:n≤2000000)(r1:0≤r)(r2:r≤10000000):Pure C 11 [fi n,fi r] (fi (zd n r)):=by
 refine Pure.intro0 (e:=e11) rfl (zuF rfl) (by simp) fun g Ψ h0 hJ=> ?_;have b1:0≤n*r:=zxd h1 r1;have b2:n*r≤2000000*10000000:=Int.mul_le_mul h2 r2 r1 (by decide);have w1:IntKind.i64.wrap (n*r)=n*r:=ze (by omega) (by omega);have w2:IntKind.i64.wrap (n*r+500000)=n*r+500000:=ze (by omega) (by omega);have e1:(n*r+500000).tdiv 1000000=(n*r+500000)/1000000:=zv4 (by omega);have w3:IntKind.i64.wrap ((n*r+500000)/1000000)=(n*r+500000)/1000000:=ze (by omega) (by omega);have hk:qp n r:=by unfold qp;omega
 have e:zd n r=(n*r+500000)/1000000:=by unfold zd ofF;rw[zuO hk,zuQ (by omega),Int.mul_assoc,zv4 (by omega)];omega
 rw[e] at h0;simp[show¬n<0 by omega,w1,w2,e1,w3];exact h0
set_option maxHeartbeats 1000000 in
theorem zhA{n r:Int}(h1: -2000000≤n)(h2:n≤2000000)(r1:0≤r)(r2:r≤10000000):Pure C 11 [fi n,fi r] (fi (zd n r)):=by
 by_cases hn:0≤n
 ·exact zhz hn h2 r1 r2
 ·refine Pure.intro0 (e:=e11) rfl (zuF rfl) (by simp) fun g Ψ h0 hJ=> ?_;have w1:IntKind.i64.wrap (-n)= -n:=ze (by omega) (by omega);have e:zd n r= -zd (-n) r:=by
   unfold zd;rw[zuO (by unfold qp;omega),zuO (by unfold qp;omega),zkJ (by omega)]
  have w2:IntKind.i64.wrap (-zd (-n) r)= -zd (-n) r:=by rw[←e];exact zmD n r
  rw[e] at h0;simp[show n<0 by omega,w1];refine zb.pure (zhz (n:= -n) (r:=r) (by omega) (by omega) r1 r2) ?_;simp[w2];exact h0
def repX(f b p m:Int):Rep:=⟨itF f b p m,dfX f b p m,zd (qq b p m).total f,0⟩
theorem zti{b p m:Int}(b1: -100000≤b)(b2:b≤100000)(p1: -1000≤p)(p2:p≤1000)(m1: -1000≤m)(m2:m≤1000):itF 1000000 b p m=itX b p m∧dfX 1000000 b p m=0∧zd (qq b p m).total 1000000=(qq b p m).total:=by
 obtain⟨a1,a2,a3,a4,a5,a6,a7,a8,e,hb,hs,ht⟩:=zgi b1 b2 p1 p2 m1 m2;have h1:itF 1000000 b p m=itX b p m:=by
  unfold itF;have:∀x∈itX b p m,y8 x 1000000=x:=fun x hx=>by have:=hb x hx;unfold y8;rw[zh7 (by omega) (by omega)]
  rw[zvo this,List.map_id']
 have h2:=zh7 (n:=(qq b p m).total) (by omega) (by omega);exact⟨h1,by unfold dfX;rw[h1,hs,h2];omega,h2⟩
def ziI:List XV:=[.v .nils,xi 0,xi 0,xi 0]
def ziQ(k:Nat)(f b p m:Int):List XV:=(if 1≤k then YZ (repX 1000000 b p m) else ziI)++(if 2≤k then YZ (repX f b p m) else ziI)
structure FxI(g0:XH)(L:Nat)(k:Nat)(f b p m:Int)(G:XH):Prop where
 u:Upg (fun _=>False) g0 G
 l:g0.length≤L
 a:G[L]? =some (.own 0 39 8 (ziQ k f b p m))
 s:G[L+1]? =some (.own 0 3 1 [xi 1000000,xi f])
theorem FxI.put{g G J:XH}{k:Nat}{f b p m:Int}(hU:Upg (fun _=>False) g G)(hs:G[g.length+1]? =some (.own 0 3 1 [xi 1000000,xi f])){X:XO}(hX:X= .own 0 39 8 (ziQ k f b p m)):FxI g g.length k f b p m (G.set g.length X++J):=by
 have l1:=zf hs;have h1:=hU.setN (zuL _) X;refine⟨⟨by have:=h1.le;rw[zuM];omega,fun j hj hn=>by rw[zq (by have:=h1.le;omega)];exact h1.same j hj hn⟩,zuL _,?_,?_⟩
 ·rw[zq (by rw[zvi];omega),zu1 (by omega),hX]
 ·rw[zq (by rw[zvi];omega),zuR (by omega),hs]
set_option maxHeartbeats 4000000 in
set_option maxRecDepth 20000 in
theorem znE(va vb vc vd:Int)(g:XH):Cl C (fun _=>False) 4 [fi va,fi vb,fi vc,fi vd] g fun u g'=>u=fb true:=by
 refine Cl.ip rfl (zuF rfl) fun Ψ hΨ=> ?_;simp;refine zb.pure (zcN va 200001 (by decide) (by decide)) ?_;have ha1:=Int.emod_nonneg va (show(200001:Int)≠0 by decide);have ha2:=Int.emod_lt_of_pos va (show(0:Int)<200001 by decide);have hwa:IntKind.i64.wrap (va%200001-100000)=va%200001-100000:=ze (by omega) (by omega);simp[hwa];refine zb.pure (zcN vb 2001 (by decide) (by decide)) ?_;have hb1:=Int.emod_nonneg vb (show(2001:Int)≠0 by decide);have hb2:=Int.emod_lt_of_pos vb (show(0:Int)<2001 by decide);have hwb:IntKind.i64.wrap (vb%2001-1000)=vb%2001-1000:=ze (by omega) (by omega);simp[hwb];refine zb.pure (zcN vc 2001 (by decide) (by decide)) ?_;have hc1:=Int.emod_nonneg vc (show(2001:Int)≠0 by decide);have hc2:=Int.emod_lt_of_pos vc (show(0:Int)<2001 by decide);have hwc:IntKind.i64.wrap (vc%2001-1000)=vc%2001-1000:=ze (by omega) (by omega);simp[hwc];refine zb.pure (zcN vd 10000000 (by decide) (by decide)) ?_;have hd1:=Int.emod_nonneg vd (show(10000000:Int)≠0 by decide);have hd2:=Int.emod_lt_of_pos vd (show(0:Int)<10000000 by decide);have hwd:IntKind.i64.wrap (1+vd%10000000)=1+vd%10000000:=ze (by omega) (by omega);simp[hwd];obtain⟨b,eb⟩:∃b,b=va%200001-100000:=⟨_,rfl⟩
 obtain⟨p,ep⟩:∃p,p=vb%2001-1000:=⟨_,rfl⟩
 obtain⟨m,em⟩:∃m,m=vc%2001-1000:=⟨_,rfl⟩
 obtain⟨f,ef⟩:∃f,f=1+vd%10000000:=⟨_,rfl⟩
 rw[←eb,←ep,←em,←ef];have b1: -100000≤b:=by omega
 have b2:b≤100000:=by omega
 have p1: -1000≤p:=by omega
 have p2:p≤1000:=by omega
 have m1: -1000≤m:=by omega
 have m2:m≤1000:=by omega
 have f1:1≤f:=by omega
 have f2:f≤10000000:=by omega
 clear hwa hwb hwc hwd ha1 ha2 hb1 hb2 hc1 hc2 hd1 hd2 eb ep em ef;refine Lp.genH (σ:=Unit) 2 (fun k _=>[(33,fi k)]) (fun k _ G=>FxI g g.length k f b p m G) () (by decide) rfl (by simp) ⟨Upg.junk,zuL _,by simp[ziQ,ziI],by simp⟩ ?_ ?_
 ·rintro k hk _ G hI hlt N hN;obtain⟨fk,g1,g2,hc,hf⟩:∃fk,1≤fk∧fk≤10000000∧[xi 1000000,xi f][k]? =some (xi fk)∧(k=0∧fk=1000000∨k=1∧fk=f):=by
   rcases(by omega:k=0∨k=1) with rfl|rfl
   ·exact⟨1000000,by decide,by decide,rfl,.inl ⟨rfl,rfl⟩⟩
   ·exact⟨f,f1,f2,rfl,.inr ⟨rfl,rfl⟩⟩
  have la:=zf hI.a;have ls:=zf hI.s;have hle:=hI.u.le;simp[l4_1,hk,show(k:Int)<2 by omega,hI.s,ls,hc];refine zb.go (znG _) (fun _ _ h=>h.elim) ?_;rintro u G2 ⟨o,J1,h1,rfl,rfl,hP⟩;have hO:=zof G J1 h1 hP (ztc (f:=fk) g1 g2 b1 b2 p1 p2 m1 m2);clear hP h1;generalize G++J1=G1 at *;obtain⟨wo,ho,_⟩:=hO.p.i;have lo:=zf ho;simp[ho,lo];have hO2:=hO.more [.own 0 28 12 ((fxC fk b p m).flatMap jM)] [(G1.length,.own 0 28 12 ((fxC fk b p m).flatMap jM))] (fun x hx=>by
   simp only[zuX,zvS,or_false] at hx;subst hx;exact⟨0,rfl,rfl⟩)
  refine Lp.genH (σ:=Gm) (fxC fk b p m).length (fun k _=>[(53,fi k)]) (fun k m' G'=>OneK G (zi7 fk b p m) (((fxC fk b p m).map fun c=>(c,(0:Int))).drop k) [(G1.length,.own 0 28 12 ((fxC fk b p m).flatMap jM))] G' o m') ⟨[],[],[],[]⟩ (by decide) rfl (by simp) hO2 ?_ ?_
  ·rintro q hq m' G' hK hlt2 N2 hN2;obtain⟨a1,a2,a3⟩:=atX zdh hq;obtain⟨r1,r2⟩:=zfl (by simpa using hq) hK.r;simp only[zxw] at r1 r2;have hp:=fxC_p _ (zvk hq);obtain⟨k1,k2⟩:=hK.k (G1.length,.own 0 28 12 ((fxC fk b p m).flatMap jM)) (by simp);have lb:=zf k1;simp only at k1 lb;have hq6:q<6:=hq;have hle2:=hK.u.le;generalize(fxC fk b p m)[q]=c at *;simp[l4_0,hq6,show(q:Int)<6 by omega,a1,a2,a3,k1,lb];refine⟨by omega,?_⟩;refine zb.go (gDo hK.p.app hK.w c hp) (fun i hi hm=> .inl (zvz hle (hK.i i hm))) ?_;rintro u G3 ⟨m2',rfl,e2,hS,hW⟩;rw[r1];simp[yN hq6 (by decide)];exact hN2 m2' G3 (hK.step hS hW (by rw[e2];exact r2))
  ·rintro m' G' hK;have hz:=hK.end_;have hle2:=hK.u.le;have xa:G'[g.length]? =some (.own 0 39 8 (ziQ k f b p m)):=by rw[hK.u.same _ (by omega) fun h=>h];exact hI.a
   have xs:G'[g.length+1]? =some (.own 0 3 1 [xi 1000000,xi f]):=by rw[hK.u.same _ (by omega) fun h=>h];exact hI.s
   simp[l4_0,show(fxC fk b p m).length=6 from rfl];refine zb.go0 (zf8 hK.p hK.w 0) ?_;obtain⟨er,d1,d2⟩:=zsr g1 g2 b1 b2 p1 p2 m1 m2;have il:(itF fk b p m).length=8:=by unfold itF itX Zp;simp
   rw[hz,er];simp[YZ];refine⟨by omega,?_⟩;have hU:Upg (fun _=>False) g G':=⟨by omega,fun j hj hn=>by rw[hK.u.same j (by omega) hn];exact hI.u.same j hj hn⟩
   clear hlt hO hO2 hK hI er;rcases hf with⟨rfl,rfl⟩|⟨rfl,rfl⟩
   ·simp[il,xa,zf xa,ziQ,ziI,show IntKind.i64.wrap 1=1 from rfl];exact hN () _ (FxI.put hU xs rfl)
   ·simp[il,xa,zf xa,ziQ,ziI,YZ,repX,show IntKind.i64.wrap 2=2 from rfl];exact hN () _ (FxI.put hU xs rfl)
 ·rintro _ G hI;obtain⟨q1,q2,q3⟩:=zti b1 b2 p1 p2 m1 m2;obtain⟨a1',a2',a3',a4',a5',a6',a7',a8',_,hb,hs,ht⟩:=zgi b1 b2 p1 p2 m1 m2;have xa:G[g.length]? =some (.own 0 39 8 [QS (itX b p m),xi 0,xi (qq b p m).total,xi 0,QS (itF f b p m),xi (dfX f b p m),xi (zd (qq b p m).total f),xi 0]):=by
   have:=hI.a;rw[this];simp[ziQ,YZ,repX,q1,q2,q3]
  have lx:=zf xa;have i1:(itX b p m).length=8:=by unfold itX Zp;simp
  have i2:(itF f b p m).length=8:=by unfold itF;simp[i1]
  simp[l4_1,xa,lx,i1];refine Lp.genU (σ:=Unit) 8 (fun k _=>[(83,fi k)]) (fun _ _=>G) (fun k _=>True) () (by decide) rfl (by simp) rfl trivial ?_ ?_
  ·rintro k hk _ _ hlt N hN;have hk1:k<(itX b p m).length:=by rw[i1];exact hk
   have hk2:k<(itF f b p m).length:=by rw[i2];exact hk
   obtain⟨c1,c2,c3⟩:=atX z8 hk1;obtain⟨e1,e2,e3⟩:=atX z8 hk2;have ef:(itF f b p m)[k]=y8 (itX b p m)[k] f:=by unfold itF;exact zxw ..
   rw[ef] at e2 e3;have hx:=hb _ (zvk hk1);generalize(itX b p m)[k]=x at *;have c4:((itX b p m).flatMap yX)[k*2]? =some (xi x.k):=c3 0 (by decide);have c5:((itX b p m).flatMap yX)[k*2+1]? =some (xi x.n):=c3 1 (by decide);have e4:((itF f b p m).flatMap yX)[k*2]? =some (xi x.k):=e3 0 (by decide);have e5:((itF f b p m).flatMap yX)[k*2+1]? =some (xi (zd x.n f)):=e3 1 (by decide);simp[l4_2,hk,show(k:Int)<8 by omega];refine zz 32 [9,17] (fun _=>False) (by decide) (by decide) ?_;simp only[zu3,zvs,zvd,zu8];simp[xa,lx,i1,i2,c1,c4,c5,e1,e4,e5,hk,show(k:Int)<8 by omega];refine zb.pure (zhA (n:=x.n) (r:=f) hx.1 hx.2 (by omega) f2) ?_;simp[yN hk (by decide)];exact qJ () hN trivial (by simp) (by simpa using hlt)
  ·rintro _ _;simp[l4_2];refine zz 13 [9,3] (fun _=>False) (by decide) (by decide) ?_;simp only[zu3,zvs,zvd,zu8];simp[xa,lx];refine zb.pure (zhA (by omega) (by omega) (by omega) (by omega)) ?_;obtain⟨_,d1,d2⟩:=zsr f1 f2 b1 b2 p1 p2 m1 m2;have w9:IntKind.i64.wrap (2*dfX f b p m)=2*dfX f b p m:=ze (by omega) (by omega);simp[xa,lx,w9,d1,d2];refine zb.go0 (zui _) ?_;simp;exact Gh.here (hΨ _ _ rfl)
end
end Go.Proofs.YtdmcfjkgopmlgaaGreatDoor.Ev.CA
namespace Go.Proofs.YtdmcfjkgopmlgaaGreatDoor.Ev.CA
open Go
def xe0:XE:=⟨id,[],[],fun _=>False,fun _=>False⟩
theorem hr0:HR xe0:=⟨fun i o h=>by simp[xe0] at h,fun i j h=>by simp[sol,xe0] at h,fun j h=>h.elim⟩
theorem groupFx_row(a b c d:Int):∃h',zy C 4 [.s (.int .i64 a),.s (.int .i64 b),.s (.int .i64 c),.s (.int .i64 d)] []=some (.s (.bool true),h')∧True:=by
 obtain⟨u,h',he,R',u',_,_,_,hu,rfl,_⟩:=znE a b c d [] xe0 [.s (.int .i64 a),.s (.int .i64 b),.s (.int .i64 c),.s (.int .i64 d)] rfl hr0 (by simp[RFs,RF,RV]);obtain rfl:u= .s (.bool true):=by
  cases u with
  |s a=>simp only[RF,RV] at hu;rw[hu.1]
  |agg l=>simp[RF] at hu
  |tup l=>simp[RF] at hu
 exact⟨h',he,trivial⟩
end Go.Proofs.YtdmcfjkgopmlgaaGreatDoor.Ev.CA

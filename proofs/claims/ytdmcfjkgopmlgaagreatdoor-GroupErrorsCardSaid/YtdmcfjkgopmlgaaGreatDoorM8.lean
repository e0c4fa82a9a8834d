import Derived.Test.YtdmcfjkgopmlgaaGreatDoorM7
set_option linter.unusedVariables false
set_option linter.unusedSimpArgs false
set_option linter.unusedSectionVars false
namespace Go.Proofs.YtdmcfjkgopmlgaaGreatDoor.Ev.CA
open Go
section
attribute [-simp] List.length_flatMap getElem?_pos
theorem zl9{g g':XH}{A B:XO}{f:Int}{t:List Bool}(hT:Jz g' (g.length+1) g.length f t)(hU:Upd (fun x=>x=g.length+1) (g++[A,B]) g'):∃w junk,(∀m,zt m junk)∧g'=g++[.own w 4 1 (t.flatMap qa++junk),.own 0 257 2 [xi f,.sl g.length w 0 t.length]]:=by
 obtain⟨w,junk,h0,h1,h2⟩:=hT;refine⟨w,junk,h0,zv6 fun j=> ?_⟩;have hl:=hU.len;simp at hl;rcases zxA j g.length with h|h|h
 ·rw[hU.same j (by omega),zq h,zq h]
 ·subst h;rw[h2];simp
 ·by_cases h3:j=g.length+1
  ·subst h3;rw[h1];simp
  ·rw[zvT (by omega),zvT (by simp;omega)]
def yQ(js:List Jo)(e:Ent):Int×Ent×List Jo:=
 if(Yh e.touched).1≠0 then((Yh e.touched).1,e,js)
 else match e.cs.getLast? with
  |none=>(0,e,js)
  |some c=>
   let q:=y8 js e.id c.p.inp.p 2 c.seq (yc (j0 c.p))
   if q.2.1≠0 then(q.2.1,e,q.2.2)
   else(0,{e with s:={c.was with reg:=e.s.reg},cs:=e.cs.dropLast,touched:=(Yh e.touched).2},q.2.2)
theorem fzhU{W S:Nat→Prop}{g G J:XH}{K:List (Option Nat)}{O:XH}(hU:Upd S g G)(hd:zay K=true)(h:KOs g.length J K O K O):FzH W g.length J K O g G G:=
 ⟨hU.len,hU.len,fun i o e=> .inl ⟨e,hU.old i o e⟩,h.at.1,zc1 hd,h.at.2⟩
set_option maxRecDepth 8000 in
set_option maxHeartbeats 1000000 in
theorem zlC{g:XH}{o:Eo}{e:Ent}(h:EntP g o e)(hL:EntL e){si sk:Nat}{js:List Jo}(hs:j8 g si sk js)(hsl:StoL js)(hne:si≠sk)(hd:si∉o.ids∧sk∉o.ids):
 Cl C (esS o si sk) 77 [.s (.ptr o.i 0 0),.s (.ptr si 0 0)] g fun u g'=>u=fi (yQ js e).1∧(∃o',o'.i=o.i∧(∀j∈o'.ids,j∈o.ids∨g.length≤j)∧EntP g' o' (yQ js e).2.1)∧j8 g' si sk (yQ js e).2.2∧Upg (esS o si sk) g g':=by
 have hP:=h;obtain⟨nd,⟨w,wf,junk,h0,hi,hc,hf⟩,hst,hr⟩:=h;have li:=zd hi;have lc:=zd hc;have hlt:=hP.lt;have lsi:si<g.length:=by obtain⟨w,h1,_⟩:=hs;exact zd h1
 have lsk:sk<g.length:=by obtain⟨w,_,h1⟩:=hs;exact zd h1
 have nn:=nd;simp[Eo.ids] at nn;refine Cl.ip rfl (zuI rfl) fun Ψ hΨ=> ?_;simp[hi,li];refine zb.go (zil hst hL.st) (fun _ _ h=>h.elim) ?_;rintro u g' ⟨rfl,w1,rfl⟩;simp;refine zb.go (zmq (k:=g.length) (f:=e.first) (t:=e.touched) ⟨w1,[],fun m=>by simp[zt],by simp,by simp⟩ (by omega) hL.st) (fun x hx ee=> .inl (by omega)) ?_;rintro u g' ⟨rfl,hT,hU⟩;obtain⟨w2,j2,h2,rfl⟩:=zl9 hT hU;clear hT hU;simp;refine zc (fun c1=> ?_) (fun c1=> ?_)
 ·simp at c1;simp;exact Gh.pure .i (hΨ _ _ (by unfold yQ;rw[zuS c1];exact⟨rfl,⟨o,rfl,fun j hj=> .inl hj,hP⟩,hs,⟨zuO _,fun _ _ _=>rfl⟩⟩))
 simp at c1;have hcl:=hL.cl;have hlo:=hL.st.lo;have hhi:=hL.st.hi;have hn1:e.touched.length≠1:=by intro ee;simp[Yh,ee] at c1
 have c2:e.cs.length-1<e.cs.length:=by omega
 have hlast:e.cs.getLast? =some e.cs[e.cs.length-1]:=by rw[zxj,zuW c2]
 have hw:IntKind.i64.wrap ((e.cs.length:Int)-1)=((e.cs.length-1:Nat):Int):=by rw[ze (by omega) (by omega)];omega
 obtain⟨x1,x2⟩:=znc (junk:=junk) c2;obtain⟨hc1,hc2,hc3,hc4,hc5⟩:=hL.cs _ (zvi c2);generalize e.cs[e.cs.length-1]=c at *;obtain⟨X,hX⟩:∃X,X=e.cs.flatMap yf++junk:=⟨_,rfl⟩
 rw[←hX] at hc x1 x2;obtain⟨q,hq⟩:∃q,q=e.cs.length-1:=⟨_,rfl⟩
 rw[←hq] at hw x1 x2 c2;simp[hi,li,hc,lc,hw,c2,x2,yf,zC,pC,zQ,zi,zD,show q*50+50≤X.length by omega,show¬X=[] from fun e=>by rw[e] at x1;simp at x1];refine zb.go0 (zaW c.p) ?_;have hlen:(j0 c.p).length≤7:=by
  unfold j0;split
  ·exact zdI _
  ·simp
 simp;refine zb.go0 (JS (RdX.lst _ (j0 c.p)) (by omega)) ?_;have hlr:(yc (j0 c.p)).length≤1000:=by
  have:(yc (j0 c.p)).length=(j0 c.p).length:=by simp[yc]
  omega
 generalize hrv:yc (j0 c.p)=ls at *;simp[hi,li];refine zb.go (ziq hs.app hne hsl e.id c.p.inp.p 2 c.seq rfl hlr) (fun z hz ee=> .inr (.inr ee)) ?_;rintro u G0 ⟨rfl,hG,hS0⟩;obtain⟨G,rfl,hS⟩:=hS0.cut (fun j hj=>hj.elim (fun e=>e▸lsi) (fun e=>e▸lsk));have hGl:G.length=g.length:=hS.len;have hGj:∀j,j≠si→j≠sk→G[j]? =g[j]? :=fun j h2 h3=>hS.same j (by simp[h2,h3]);have hGe:∀j∈o.ids,G[j]? =g[j]? :=fun j hj=>hGj j (fun ee=>hd.1 (ee▸hj)) (fun ee=>hd.2 (ee▸hj));have hPG:EntP G o e:=hP.same hGe;have hGs:j8 G si sk (y8 js e.id c.p.inp.p 2 c.seq ls).2.2:=hG.sam (zq (by omega)).symm (zq (by omega)).symm;have hSU:Upd (esS o si sk) g G:=⟨hS.len,fun j hj=>hS.same j fun ee=>hj (.inr ee),fun j x hx=>by
  by_cases hj:j=si∨j=sk
  ·exact .inr (hGs.old lsk j hj x hx)
  ·rw[hS.same j hj] at hx;exact .inl hx⟩
 have li':o.i<G.length:=by omega
 have hi':G[o.i]? =_:=(hGe o.i (by simp[Eo.ids])).trans hi;have hc':G[o.c]? =_:=(hGe o.c (by simp[Eo.ids])).trans hc;have lc':=zd hc'
 have he:yQ js e=if(y8 js e.id c.p.inp.p 2 c.seq ls).2.1≠0 then((y8 js e.id c.p.inp.p 2 c.seq ls).2.1,e,(y8 js e.id c.p.inp.p 2 c.seq ls).2.2)
  else(0,{e with s:={c.was with reg:=e.s.reg},cs:=e.cs.dropLast,touched:=(Yh e.touched).2},(y8 js e.id c.p.inp.p 2 c.seq ls).2.2):=by
  unfold yQ;rw[zuU (by simp[c1]),hlast];simp only[hrv]
 rw[←hGl];generalize y8 js e.id c.p.inp.p 2 c.seq ls=v at *;obtain⟨seq,pe,js'⟩:=v;simp;refine zc (fun c3=> ?_) (fun c3=> ?_)
 ·simp at c3;simp;rw[zuS (by simpa using c3)] at he;refine qS hSU (by simp) (hΨ _ _ (by rw[he];exact⟨rfl,⟨o,rfl,fun j hj=> .inl hj,hPG⟩,hGs,⟨by omega,fun j _ hj=>hSU.same j hj⟩⟩))
 simp at c3;rw[zuU (by simpa using c3)] at he;have hci:¬o.c=o.i:=by omega
 have hXn:¬X=[]:=fun e=>by rw[e] at x1;simp at x1
 clear hG hS0;have hCl:=fun G:XH=>zdr (g:=G) c.was (RdX.lst G c.was.filed) hc4 (by have:=hc3.len;omega);refine ziZ 18 [(10,6),(14,6),(17,6)] [0] 17 1 7 [] [(0,3),(0,6)] [66,72] (fun x=>x=o.i) (by decide) (by decide) (by decide) (by decide) (by decide) (by decide) (by decide) ?_ ?_<;>simp only[zu7,zvC,zvh,zvd]
 ·simp;refine zb.go (hCl _) (fun _ _ h=>h.elim) ?_;rintro u g' ⟨w3,rfl,rfl⟩;simp[hi',li',hc',lc',hw,c2,hXn,show q≤e.cs.length by omega]
 ·simp;refine zb.go (hCl _) (fun _ _ h=>h.elim) ?_;rintro u g' ⟨w3,rfl,rfl⟩;simp[hi',li',hc',lc',hw,c2,hXn,hci,show q≤e.cs.length by omega];refine⟨.inr (.inl (by simp[Eo.ids])),?_⟩;rw[hGl];have lx:∀n:Int,lvV g.length (xi n):=fun n=>by simp
  have lr:o.r<g.length:=hlt o.r (by simp[Eo.ids]);have lt2:∀m,zt m ((Yh e.touched).2.flatMap qa++j2):=fun m=>by simp[h2]
  obtain⟨ys,hys⟩:=zxk.1 hlast;have hdl:e.cs.dropLast=ys:=by rw[hys,zxh]
  have hyl:ys.length=q:=by rw[hq,hys];simp
  subst hyl;have hX2:X=ys.flatMap yf++(yf c++junk):=by rw[hX,hys];simp
  let X2:XO:= .own 0 108 14 [xs e.id,xs e.j,.ptr (g.length+1) 0 0,xi c.was.book,xi c.was.perm,xi c.was.judge,xi c.was.cap,xi c.was.life,xi c.was.up,.sl (g.length+2) w3 0 c.was.filed.length,lpV c.was.l,.ptr o.r 0 0,.sl o.c w 0 ys.length,xi e.first];refine Gh.keep (g2:=G.set o.i X2) [some 0,some 1,some 3] [.own w2 4 1 ((Yh e.touched).2.flatMap qa++j2),.own 0 257 2 [xi e.first,.sl g.length w2 0 (Yh e.touched).2.length],.own w3 3 1 (c.was.filed.flatMap zR)] (FzH.put (fzhU hSU rfl ?_) o.i 0 108 14 (.inl (by simp[Eo.ids])) ?_) (.s (.lt (lx _))) (hΨ _ _ ?_)
  ·exact⟨⟨_,_,_,_,_,rfl,rfl,.lts (lt2 _)⟩,⟨_,_,_,_,_,rfl,rfl,.cons (.lt (lx _)) (.cons (.ksl (j:=0) (k:=0) rfl) .nil)⟩,⟨_,_,_,_,_,rfl,rfl,.lts (by simp)⟩,trivial⟩
  ·exact .cons (.lt (by simp)) (.cons (.lt (by simp)) (.cons (.kptr (j:=1) (k:=1) rfl) (.cons (.lt (lx _)) (.cons (.lt (lx _)) (.cons (.lt (lx _)) (.cons (.lt (lx _)) (.cons (.lt (lx _)) (.cons (.lt (lx _)) (.cons (.ksl (j:=2) (k:=3) rfl) (.cons (.lt (by simp)) (.cons (.lt (by simp[lr])) (.cons (.lt (by simp[lc])) (.cons (.lt (lx _)) .nil)))))))))))))
  ·have ls2:(G.set o.i X2).length=g.length:=by rw[zvx,hGl]
   have hnew:∀(k:Nat) (O:XH),(G.set o.i X2++O)[g.length+k]? =O[k]? :=fun k O=>by rw[zuP (by omega),ls2];congr 1;omega
   have hnew0:∀(O:XH),(G.set o.i X2++O)[g.length]? =O[0]? :=fun O=>hnew 0 O;have hold:∀(j:Nat) (O:XH),j<g.length→j≠o.i→(G.set o.i X2++O)[j]? =G[j]? :=fun j O h1 h3=>by rw[zuN (by omega),zuT (fun e=>h3 e.symm)]
   have nsi:o.i≠si:=fun ee=>hd.1 (ee▸(by simp[Eo.ids]));have nsk:o.i≠sk:=fun ee=>hd.2 (ee▸(by simp[Eo.ids]));have hRg:G[o.r]? =_:=hPG.r;rw[he];refine⟨rfl,⟨⟨o.i,g.length+1,g.length,o.r,o.c,g.length+2⟩,rfl,?_,⟨?_,⟨w,w3,yf c++junk,fun m=>by simp[h0],?_,?_,?_⟩,⟨w2,j2,h2,?_,?_⟩,?_⟩⟩,?_,⟨by simp;omega,fun j h1 h3=> ?_⟩⟩
   ·intro j hj;simp[Eo.ids] at hj⊢;omega
   ·simp[Eo.ids];omega
   ·show(G.set o.i X2++_)[o.i]? =_;rw[zuN (by omega),zu3 li'];simp only[hdl];rfl
   ·show(G.set o.i X2++_)[o.c]? =_;rw[hold _ _ lc (by omega),hc'];simp only[hdl,hX2]
   ·show(G.set o.i X2++_)[g.length+2]? =_;rw[hnew];rfl
   ·show(G.set o.i X2++_)[g.length+1]? =_;rw[hnew];rfl
   ·show(G.set o.i X2++_)[g.length]? =_;rw[hnew0];rfl
   ·show(G.set o.i X2++_)[o.r]? =_;rw[hold _ _ lr (by omega),hRg]
   ·exact(hGs.sam (hold si _ lsi nsi.symm) (hold sk _ lsk nsk.symm))
   ·rw[hold _ _ h1 (fun ee=>h3 (.inl (by rw[ee];simp[Eo.ids]))),hSU.same j h3]
structure Gi where
 i:Nat
 l:Nat
 t:Nat
 tk:Nat
 s:Nat
 sk:Nat
 c:Nat
def Gi.ids(o:Gi):List Nat:=[o.i,o.l,o.t,o.tk,o.s,o.sk,o.c]
structure Gm where
 t:List Rw
 js:List Jo
 ms:List (Eo×Ent)
 c:List Pa
def Yo(x:Eo×Ent):List XV:=[xs x.2.id,xs x.2.j,xi x.2.fx,xi x.2.first,.ptr x.1.i 0 0]
theorem jG(x:Eo×Ent):(Yo x).length=5:=rfl
def Gm.ids(m:Gm):List Nat:=m.ms.flatMap fun x=>x.1.ids
structure GrpP(g:XH)(o:Gi)(m:Gm):Prop where
 nd:(o.ids++m.ids).Nodup
 i:∃w,g[o.i]? =some (.own 0 66 4 [.sl o.l w 0 m.ms.length,.ptr o.t 0 0,.ptr o.s 0 0,.ptr o.c 0 0])∧g[o.l]? =some (.own w 69 5 (m.ms.flatMap Yo))
 t:Zd 145 140 g o.t o.tk m.t
 s:j8 g o.s o.sk m.js
 c:zal g o.c m.c
 e:∀x∈m.ms,EntP g x.1 x.2
structure GrpL(m:Gm):Prop where
 t:m.t.length≤24
 s:StoL m.js
 n:m.ms.length≤4
 c:m.c.length≤100
 cu:m.c.Pairwise unP
 e:∀x∈m.ms,EntL x.2
theorem zqj{g:XH}{x:Eo×Ent}(h:EntP g x.1 x.2){n:Nat}(hn:g.length≤n):zt n (Yo x):=by have:=h.lt x.1.i (by simp[Eo.ids]);simp[Yo];omega
theorem GrpP.lt{g:XH}{o:Gi}{m:Gm}(h:GrpP g o m):∀i∈o.ids++m.ids,i<g.length:=by
 obtain⟨nd,⟨w,h1,h2⟩,⟨w1,h3,h4⟩,⟨w2,h5,h6⟩,h7,h8⟩:=h;have h7:g[o.c]? =_:=h7;intro i hi;rw[zuZ] at hi;rcases hi with hi|hi
 ·simp[Gi.ids] at hi;rcases hi with rfl|rfl|rfl|rfl|rfl|rfl|rfl
  ·exact zd h1
  ·exact zd h2
  ·exact zd h3
  ·exact zd h4
  ·exact zd h5
  ·exact zd h6
  ·exact zd h7
 ·unfold Gm.ids at hi;rw[zvz] at hi;obtain⟨x,hx,hi⟩:=hi;exact(h8 x hx).lt i hi
theorem GrpP.same{g G:XH}{o:Gi}{m:Gm}(h:GrpP g o m)(hs:∀i∈o.ids++m.ids,G[i]? =g[i]?):GrpP G o m:=by
 obtain⟨nd,⟨w,h1,h2⟩,⟨w1,h3,h4⟩,⟨w2,h5,h6⟩,h7,h8⟩:=h;have q:∀i,i∈o.ids→G[i]? =g[i]? :=fun i hi=>hs i (zvn _ hi);have h7:g[o.c]? =_:=h7;refine⟨nd,⟨w,?_,?_⟩,⟨w1,?_,?_⟩,⟨w2,?_,?_⟩,?_,fun x hx=>(h8 x hx).same fun i hi=>hs i (zvJ _ (zvz.2 ⟨x,hx,hi⟩))⟩
 ·rw[q _ (by simp[Gi.ids])];exact h1
 ·rw[q _ (by simp[Gi.ids])];exact h2
 ·rw[q _ (by simp[Gi.ids])];exact h3
 ·rw[q _ (by simp[Gi.ids])];exact h4
 ·rw[q _ (by simp[Gi.ids])];exact h5
 ·rw[q _ (by simp[Gi.ids])];exact h6
 ·unfold zal;rw[q _ (by simp[Gi.ids])];exact h7
theorem GrpP.app{g J:XH}{o:Gi}{m:Gm}(h:GrpP g o m):GrpP (g++J) o m:=h.same fun i hi=>zq (h.lt i hi)
theorem znH(g:XH):Cl C (fun _=>False) 13 [] g fun u g'=>∃o J,(∀i∈o.ids,g.length≤i)∧u= .s (.ptr o.i 0 0)∧g'=g++J∧GrpP g' o ⟨[],[],[],[]⟩:=by
 refine Cl.ip rfl (zuI rfl) fun Ψ hΨ=> ?_;simp;refine zb.go (zuh _) (fun _ _ h=>h.elim) ?_;rintro u g' ⟨rfl,rfl⟩;simp;refine zb.go (zue _) (fun _ _ h=>h.elim) ?_;rintro u g' ⟨rfl,rfl⟩;simp;refine zb.go (zs0 _) (fun _ _ h=>h.elim) ?_;rintro u g' ⟨rfl,rfl⟩;simp;refine Gh.keep [some 0,some 1,some 2,some 3,some 4,some 5,none] [.own 0 145 1 [.sl (g.length+1) 0 0 0],.own 0 140 4 [],.own 0 175 1 [.sl (g.length+3) 0 0 0],.own 0 184 6 [],.own 0 177 1 [zgk []],.own 0 66 4 [.sl (g.length+6) 0 0 0,.ptr g.length 0 0,.ptr (g.length+2) 0 0,.ptr (g.length+4) 0 0],.own 0 69 5 []] (zlN rfl ?_) (.s (.kptr (j:=5) (k:=5) rfl)) (hΨ _ _ ?_)
 ·exact⟨⟨_,_,_,_,_,rfl,rfl,.cons (.ksl (j:=1) (k:=1) rfl) .nil⟩,⟨_,_,_,_,_,rfl,rfl,.nil⟩,⟨_,_,_,_,_,rfl,rfl,.cons (.ksl (j:=3) (k:=3) rfl) .nil⟩,⟨_,_,_,_,_,rfl,rfl,.nil⟩,⟨_,_,_,_,_,rfl,rfl,.lts (by simp)⟩,⟨_,_,_,_,_,rfl,rfl,.cons (.gh (j:=6) rfl rfl) (.cons (.kptr (j:=0) (k:=0) rfl) (.cons (.kptr (j:=2) (k:=2) rfl) (.cons (.kptr (j:=4) (k:=4) rfl) .nil)))⟩,⟨_,_,rfl⟩,trivial⟩
 ·refine⟨⟨g.length+5,g.length+6,g.length,g.length+1,g.length+2,g.length+3,g.length+4⟩,_,?_,rfl,rfl,?_,⟨0,by simp,by simp⟩,⟨0,by simp,by simp⟩,⟨0,by simp,by simp⟩,by simp[zal],fun x hx=>by simp at hx⟩
  ·simp[Gi.ids]
  ·simp[Gi.ids,Gm.ids]
def zce(id:ByteArray)(x:Eo×Ent):Bool:=x.2.id==id
def yb(m:Gm)(id:ByteArray):Option (Eo×Ent):=m.ms.find? (zce id)
theorem keyMP(x:Eo×Ent)(id:ByteArray){g:XH}{a:Nat}(ha:g[a]? =some (.own 0 9 1 [xs id])):Cl C (fun _=>False) 69 [.agg (Yo x),.s (.ptr a 0 0)] g fun u g'=>u=fb (zce id x)∧g'=g:=by have la:=zd ha;refine Cl.ip rfl (zuI rfl) fun Ψ hΨ=> ?_;simp[Yo,ha,la,yT];exact Gh.pure (.s (.lt (by simp))) (hΨ _ _ ⟨by simp[zce,z1],rfl⟩)
def JQ(q:Option (Eo×Ent)):XF:=match q with
 |some x=> .tup [.agg (Yo x),fb true]
 |none=> .tup [.agg [xs ⟨#[]⟩,xs ⟨#[]⟩,xi 0,xi 0,.v .nilp],fb false]
theorem Qz{g:XH}{o:Gi}{m:Gm}(h:GrpP g o m)(hL:GrpL m)(id:ByteArray):Cl C (fun _=>False) 28 [.s (.ptr o.i 0 0),fs id] g fun u g'=>u=JQ (yb m id)∧g'=g:=by
 obtain⟨nd,⟨w,hi,hl⟩,_,_,_,he⟩:=h;have li:=zd hi;have ll:=zd hl;have hn:=hL.n;refine Cl.ip rfl (zuI rfl) fun Ψ hΨ=> ?_;simp[hi,li];refine zb.go0 (Yq (q:=zce id) (f:=68) rfl jG (by decide) (RdX.sl jG hl).app (by omega) (.inr ⟨g.length+2,69,[],[.s (.ptr g.length 0 0)],rfl,by simp,fun x _=>keyMP x id (by simp)⟩)) ?_;rcases YW (zce id) m.ms 0 with⟨f1,f2⟩|⟨q,f1,hq,f2⟩
 ·simp[f1];exact Gh.pure (u':=JQ none) (.t2 (.agg (.lts (by simp))) (.s (.lt (by simp)))) (hΨ _ _ ⟨by unfold yb;rw[f2],rfl⟩)
 ·rw[zvt] at f1;obtain⟨p1,cs1,o1,b1,b2,b3,b4,b5,b6⟩:=(RdX.sl jG hl).atJ jG (by decide) hq;have hx:=zqj (he _ (zvi hq)) (zuO _);have hf:yb m id=some m.ms[q]:=f2;generalize m.ms[q]=x at *;simp[f1,show¬(q:Int)<0 by omega];simp[hi,li,hq,b1,b2,b3,b4,b5,Yo];exact Gh.pure (u':=JQ (some x)) (.t2 (.agg (.lts hx)) (.s (.lt (by simp)))) (hΨ _ _ ⟨by rw[hf],rfl⟩)
abbrev yV(m:Cmd):List XV:=[xi m.k,xs m.id,xs m.id2,xs m.j,xi m.c,xi m.d,xi m.y,xi m.z,xi m.p,xi m.n,xi m.r,xi m.x]
theorem Sam.upg{S:Nat→Prop}{g J g':XH}(h:Sam S (g++J) g'):Upg S g g':=⟨by rw[h.len];simp,fun j hj hn=>by rw[h.same j hn,zq hj]⟩
theorem Upg.cut{S:Nat→Prop}{g J g':XH}(h:Upg S (g++J) g'):Upg S g g':=⟨zvB (by simp) h.le,fun j hj hn=>by rw[h.same j (by simp;omega) hn,zq hj]⟩
theorem Upg.junk{S:Nat→Prop}{g J:XH}:Upg S g (g++J):=⟨by simp,fun j hj _=>zq hj⟩
theorem Upg.mono{S T:Nat→Prop}{g g':XH}(h:Upg S g g')(hs:∀j,S j→T j):Upg T g g':=⟨h.le,fun j hj hn=>h.same j hj fun k=>hn (hs j k)⟩
noncomputable def yi(t:List Rw)(js:List Jo)(e:Ent)(c:Cmd):Int×Ent×List Jo:=
 if c.k=3 then((zz e (QO e.s c.n)).1,(zz e (QO e.s c.n)).2,js)
 else if c.k=4 then((zz e (QT e.s c.n)).1,(zz e (QT e.s c.n)).2,js)
 else if c.k=5 then((zz e (zhL e.s c.c c.y c.n)).1,(zz e (zhL e.s c.c c.y c.n)).2,js)
 else if c.k=6 then((zz e (zh9 e.s c.c c.y c.d c.z c.n)).1,(zz e (zh9 e.s c.c c.y c.d c.z c.n)).2,js)
 else if c.k=7 then((zz e (zbq e.s c.r)).1,(zz e (zbq e.s c.r)).2,js)
 else if c.k=8 then((zz e (zbc e.s c.r c.y)).1,(zz e (zbc e.s c.r c.y)).2,js)
 else if c.k=9 then((zz e (jt e c.p c.n)).1,(zz e (jt e c.p c.n)).2,js)
 else if c.k=11 then yq t js e
 else yQ js e
theorem GrpP.apart{g:XH}{o:Gi}{m:Gm}(h:GrpP g o m){x:Eo×Ent}(hx:x∈m.ms):o.s∉x.1.ids∧o.sk∉x.1.ids:=by have hnd:=h.nd;rw[zvM] at hnd;have hm:∀j∈x.1.ids,j∈m.ids:=fun j hj=>zvz.2 ⟨x,hx,hj⟩;exact⟨fun h1=>hnd.2.2 o.s (by simp[Gi.ids]) o.s (hm _ h1) rfl,fun h1=>hnd.2.2 o.sk (by simp[Gi.ids]) o.sk (hm _ h1) rfl⟩
theorem GrpP.sne{g:XH}{o:Gi}{m:Gm}(h:GrpP g o m):o.s≠o.sk:=by have hnd:=h.nd;rw[zvM] at hnd;have:=hnd.1;simp[Gi.ids] at this;omega
theorem zqB{g:XH}{o:Gi}{m:Gm}(h:GrpP g o m)(hL:GrpL m){x:Eo×Ent}(hx:x∈m.ms)(c:Cmd)(hp:c.p≤9223372036854775807):Cl C (esS x.1 o.s o.sk) 29 [.s (.ptr o.i 0 0),.s (.ptr x.1.i 0 0),.agg (yV c)] g fun u g'=>u=fi (yi m.t m.js x.2 c).1∧(∃o',o'.i=x.1.i∧(∀j∈o'.ids,j∈x.1.ids∨g.length≤j)∧EntP g' o' (yi m.t m.js x.2 c).2.1)∧j8 g' o.s o.sk (yi m.t m.js x.2 c).2.2∧Upg (esS x.1 o.s o.sk) g g':=by
 have hE:=h.e x hx;have hEL:=hL.e x hx;have hd:=h.apart hx;have hne:=h.sne;have hs:=h.s;have ht:=h.t;have htl:=hL.t;have hsl:=hL.s;have lsi:o.s<g.length:=h.lt _ (by simp[Gi.ids]);have lsk:o.sk<g.length:=h.lt _ (by simp[Gi.ids]);obtain⟨nd,⟨w,hi,hl⟩,_,_,_,_⟩:=h;have li:=zd hi;obtain⟨q,e⟩:=x;refine Cl.ip rfl (zuI rfl) fun Ψ hΨ=> ?_;have fin:∀(J g':XH) (d:Int×Sta),yi m.t m.js e c=((zz e d).1,(zz e d).2,m.js)→EntP g' q (zz e d).2→Sam (fun x=>x∈q.ids) (g++J) g'→Gh (esS q o.s o.sk) g Ψ (fi (zz e d).1) g':=fun J g' d h1 h2 h3=>
  Gh.here (hΨ _ _ (by
   rw[h1];exact⟨rfl,⟨q,rfl,fun j hj=> .inl hj,h2⟩,hs.app.sam (h3.same _ hd.1) (h3.same _ hd.2),(h3.mono fun j hj=> .inl hj).upg⟩))
 simp;refine zc (fun c3=> ?_) (fun c3=> ?_)
 ·simp at c3;simp;refine zb.go (zqk hE.app hEL.st c.n) (fun z hz ee=> .inr (.inl ee)) ?_;rintro u g' ⟨rfl,h2,h3⟩;simp;exact fin _ _ _ (by simp[yi,c3]) h2 h3
 simp at c3;refine zc (fun c4=> ?_) (fun c4=> ?_)
 ·simp at c4;simp;refine zb.go (zqo hE.app hEL.st c.n) (fun z hz ee=> .inr (.inl ee)) ?_;rintro u g' ⟨rfl,h2,h3⟩;simp;exact fin _ _ _ (by simp[yi,c3,c4]) h2 h3
 simp at c4;refine zc (fun c5=> ?_) (fun c5=> ?_)
 ·simp at c5;simp;refine zb.go (zqn hE.app hEL.st hEL.reg c.c c.y c.n) (fun z hz ee=> .inr (.inl ee)) ?_;rintro u g' ⟨rfl,h2,h3⟩;simp;exact fin _ _ _ (by simp[yi,c3,c4,c5]) h2 h3
 simp at c5;refine zc (fun c6=> ?_) (fun c6=> ?_)
 ·simp at c6;simp;refine zb.go (zi5 hE.app hEL.st hEL.reg c.c c.y c.d c.z c.n) (fun z hz ee=> .inr (.inl ee)) ?_;rintro u g' ⟨rfl,h2,h3⟩;simp;exact fin _ _ _ (by simp[yi,c3,c4,c5,c6]) h2 h3
 simp at c6;refine zc (fun c7=> ?_) (fun c7=> ?_)
 ·simp at c7;simp;refine zb.go (znw hE.app hEL.st c.r) (fun z hz ee=> .inr (.inl ee)) ?_;rintro u g' ⟨rfl,h2,h3⟩;simp;exact fin _ _ _ (by simp[yi,c3,c4,c5,c6,c7]) h2 h3
 simp at c7;refine zc (fun c8=> ?_) (fun c8=> ?_)
 ·simp at c8;simp;refine zb.go (zql hE.app hEL.st c.r c.y) (fun z hz ee=> .inr (.inl ee)) ?_;rintro u g' ⟨rfl,h2,h3⟩;simp;exact fin _ _ _ (by simp[yi,c3,c4,c5,c6,c7,c8]) h2 h3
 simp at c8;refine zc (fun c9=> ?_) (fun c9=> ?_)
 ·simp at c9;simp[hi,li];refine zb.go (zqm hE.app hEL (.ptr o.t 0 0) c.p c.n hp) (fun z hz ee=> .inr (.inl ee)) ?_;rintro u g' ⟨rfl,h2,h3⟩;simp;exact fin _ _ _ (by simp[yi,c3,c4,c5,c6,c7,c8,c9]) h2 h3
 simp at c9;refine zc (fun c11=> ?_) (fun c11=> ?_)
 ·simp at c11;simp[hi,li];refine zb.go (znu hE.app hEL ht.app (by omega) hs.app hsl hne hd) (fun z hz ee=> .inr ee) ?_;rintro u g' ⟨rfl,h2,h3,h4⟩;simp;exact Gh.here (hΨ _ _ (by rw[show yi m.t m.js e c=yq m.t m.js e by simp[yi,c3,c4,c5,c6,c7,c8,c9,c11]];exact⟨rfl,⟨q,rfl,fun j hj=> .inl hj,h2⟩,h3,h4.upg⟩))
 simp at c11;simp[hi,li];refine zb.go (zlC hE.app hEL hs.app hsl hne hd) (fun z hz ee=> .inr ee) ?_;rintro u g' ⟨rfl,⟨o',h1,h2,h3⟩,h4,h5⟩;simp;exact Gh.here (hΨ _ _ (by rw[show yi m.t m.js e c=yQ m.js e by simp[yi,c3,c4,c5,c6,c7,c8,c9,c11]];exact⟨rfl,⟨o',h1,fun j hj=>(h2 j hj).elim .inl fun h=> .inr (zvB (by simp) h),h3⟩,h4,h5.cut⟩))
def zjo(q:Option (Eo×Ent)):List XV:=match q with
 |some x=>Yo x
 |none=>[xs ⟨#[]⟩,xs ⟨#[]⟩,xi 0,xi 0,.v .nilp]
theorem zaP(q:Option (Eo×Ent)):(zjo q).length=5:=by cases q<;>rfl
theorem Ya(q:Option (Eo×Ent)):JQ q= .tup [.agg (zjo q),fb q.isSome]:=by cases q<;>rfl
def grS(o:Gi)(m:Gm):Nat→Prop:=fun x=>x∈o.ids++m.ids
structure GrpS(g:XH)(o:Gi)(m:Gm)(g':XH)(m':Gm):Prop where
 p:GrpP g' o m'
 u:Upg (grS o m) g g'
 n:∀j∈m'.ids,j∈m.ids∨g.length≤j
theorem GrpS.here{g J:XH}{o:Gi}{m:Gm}(h:GrpP g o m):GrpS g o m (g++J) m:=⟨h.app,Upg.junk,fun j hj=> .inl hj⟩
def ZJ(m:Gm)(c:Cmd):Int×Option Ent:=
 if(yb m c.id).isSome then(4,none)
 else if 4≤m.ms.length then(5,none)
 else if c.x<1∨10000000<c.x then(1,none)
 else if Zh c.id c.j c.r c.y c.p then(0,some (yZ c.id c.j c.x c.r c.y c.p)) else(1,none)
theorem GrpP.more{g:XH}{o:Gi}{m:Gm}(h:GrpP g o m){H:XH}{w:Nat}{o':Eo}{e':Ent}(hn:∀j∈o'.ids,g.length≤j)(hE:EntP H o' e')(h1:H[o.i]? =some (.own 0 66 4 [.sl o.l w 0 (m.ms.length+1),.ptr o.t 0 0,.ptr o.s 0 0,.ptr o.c 0 0]))(h2:H[o.l]? =some (.own w 69 5 (m.ms.flatMap Yo++Yo (o',e'))))(h3:∀j,j<g.length→j≠o.i→j≠o.l→H[j]? =g[j]?):GrpP H o {m with ms:=m.ms++[(o',e')]}:=by
 have hlt:=h.lt;obtain⟨nd,_,⟨w1,k3,k4⟩,⟨w2,k5,k6⟩,k7,k8⟩:=h;have k7:g[o.c]? =_:=k7;have hnd:=nd;rw[zvM] at hnd;obtain⟨n1,n2,n3⟩:=hnd;have n1':=n1;simp[Gi.ids] at n1';obtain⟨⟨a1,a2,a3,a4,a5,a6⟩,⟨b2,b3,b4,b5,b6⟩,_⟩:=n1';have q:∀i∈o.ids,i≠o.i→i≠o.l→H[i]? =g[i]? :=fun i hi a b=>h3 i (hlt i (zvn _ hi)) a b;refine⟨?_,⟨w,by simpa using h1,by simpa using h2⟩,⟨w1,?_,?_⟩,⟨w2,?_,?_⟩,?_,?_⟩
 ·simp only[Gm.ids,zvp,zvR,zwQ,zvj];rw[←zvc,zvM];exact⟨nd,hE.nd,fun a ha b hb e=>by have:=hlt a ha;have:=hn b hb;omega⟩
 ·rw[q o.t (by simp[Gi.ids]) (fun e=>a2 e.symm) (fun e=>b2 e.symm)];exact k3
 ·rw[q o.tk (by simp[Gi.ids]) (fun e=>a3 e.symm) (fun e=>b3 e.symm)];exact k4
 ·rw[q o.s (by simp[Gi.ids]) (fun e=>a4 e.symm) (fun e=>b4 e.symm)];exact k5
 ·rw[q o.sk (by simp[Gi.ids]) (fun e=>a5 e.symm) (fun e=>b5 e.symm)];exact k6
 ·unfold zal;rw[q o.c (by simp[Gi.ids]) (fun e=>a6 e.symm) (fun e=>b6 e.symm)];exact k7
 ·intro x hx;rw[zuZ,zvm] at hx;rcases hx with hx|rfl
  ·refine(k8 x hx).same fun j hj=>h3 j ((k8 x hx).lt j hj) ?_ ?_
   ·exact fun e=>n3 o.i (by simp[Gi.ids]) j (zvz.2 ⟨x,hx,hj⟩) e.symm
   ·exact fun e=>n3 o.l (by simp[Gi.ids]) j (zvz.2 ⟨x,hx,hj⟩) e.symm
  ·exact hE
theorem zqz{g:XH}{o:Gi}{m:Gm}(h:GrpP g o m)(hL:GrpL m)(c:Cmd):Cl C (grS o m) 26 [.s (.ptr o.i 0 0),.agg (yV c)] g fun u g'=>u=fi (ZJ m c).1∧∃m',GrpS g o m g' m'∧match(ZJ m c).2 with
 |some e=>∃o',m'={m with ms:=m.ms++[(o',e)]}
 |none=>m'=m:=by
 have hP:=h;have hlt:=h.lt;have hn:=hL.n;obtain⟨nd,⟨w,hi,hl⟩,_,_,_,_⟩:=h;have li:=zd hi;have ll:=zd hl;have hne:¬o.i=o.l:=by rw[zvM] at nd;have:=nd.1;simp[Gi.ids] at this;exact this.1.1
 have hne':¬o.l=o.i:=fun e=>hne e.symm;refine Cl.ip rfl (zuI rfl) fun Ψ hΨ=> ?_;have bad:∀(J:XH) (e:Int),ZJ m c=(e,none)→Gh (grS o m) g Ψ (fi e) (g++J):=fun J e h=>Gh.here (hΨ _ _ (by rw[h];exact⟨rfl,m,GrpS.here hP,rfl⟩));simp;refine zb.go0 (Qz hP.app hL c.id) ?_;rw[Ya];have hml:=zaP (yb m c.id);generalize zjo (yb m c.id)=F at *;simp[hml];refine zc (fun c1=> ?_) (fun c1=> ?_)
 ·simp;exact bad _ 4 (by simp[ZJ,c1])
 simp[hi,li];refine zc (fun c2=> ?_) (fun c2=> ?_)
 ·simp at c2;simp;exact bad _ 5 (by simp[ZJ,c1,show 4≤m.ms.length by omega])
 simp at c2;have e1:ZJ m c=if c.x<1∨10000000<c.x then(1,none) else if Zh c.id c.j c.r c.y c.p then(0,some (yZ c.id c.j c.x c.r c.y c.p)) else(1,none):=by unfold ZJ;rw[zuU (by simp[c1]),zuU (by omega)]
 simp;refine zc (fun c3=> ?_) (fun c3=> ?_)
 ·simp at c3;simp;exact bad _ 1 (by rw[e1,zuS (.inl c3)])
 simp at c3;simp;refine zc (fun c4=> ?_) (fun c4=> ?_)
 ·simp at c4;simp;exact bad _ 1 (by rw[e1,zuS (.inr c4)])
 simp at c4;rw[zuU (by omega)] at e1;simp;refine zb.go (zta _ c.id c.j c.x c.r c.y c.p) (fun _ _ h=>h.elim) ?_;intro u g' hN;by_cases hk:Zh c.id c.j c.r c.y c.p
 ·rw[zuS hk] at hN e1;obtain⟨o',J',k1,rfl,rfl,k2⟩:=hN;have hfl:(m.ms.flatMap Yo).length=m.ms.length*5:=zf jG m.ms;simp[hi,li,hl,ll,hne,hne',hfl,show(m.ms.length+1)*56≤140737488355328 by omega];refine⟨.inr (by simp[grS,Gi.ids]),.inr (by simp[grS,Gi.ids]),?_⟩;have hX:∀(A B:XO) (J0 J' K:XH) (j:Nat),g.length≤j→j<(g++J0++J').length→((g.set o.l A).set o.i B++(J0++(J'++K)))[j]? =(g++J0++J')[j]? :=by
   intro A B J0 J' K j h1 h2;rw[zvc] at h2⊢;rw[zuP (by simp;exact h1),zuP h1,←zvc,zuN (by simp at h2⊢;omega)];simp
  have hO:∀(A B:XO) (K:XH) (j:Nat),j<g.length→j≠o.i→j≠o.l→((g.set o.l A).set o.i B++K)[j]? =g[j]? :=by intro A B K j h1 h2 h3;rw[zuN (by simp;exact h1),zuT (fun e=>h2 e.symm),zuT (fun e=>h3 e.symm)]
  have hI:∀(A B:XO) (K:XH),((g.set o.l A).set o.i B++K)[o.i]? =some B∧((g.set o.l A).set o.i B++K)[o.l]? =some A:=by
   intro A B K;constructor
   ·rw[zuN (by simp;exact li),zu3 (by simp;exact li)]
   ·rw[zuN (by simp;exact ll),zuT hne,zu3 ll]
  have k1':∀j∈o'.ids,g.length≤j:=fun j hj=>zvB (by simp) (k1 j hj);have hE2:=fun A B K=>k2.same (G:=(g.set o.l A).set o.i B++([.own 0 28 12 (yV c),.own 0 69 5 (setX [.v (.str ⟨#[]⟩),.v (.str ⟨#[]⟩),.v (.int .i64 0),.v (.int .i64 0),.v .nilp] 0 F)]++(J'++K))) (fun j hj=>hX A B _ J' K j (k1' j hj) (k2.lt j hj));have hG:=fun w' K=>hP.more (w:=w') k1' (hE2 _ _ K) (hI _ _ _).1 (hI _ _ _).2 (fun j h1 h2 h3=>hO _ _ _ j h1 h2 h3);refine Gh.here (hΨ _ _ (by
   rw[e1];refine⟨rfl,_,⟨hG (w+1) [_],⟨by simp,fun j h1 h2=>hO _ _ _ j h1 (fun e=>h2 (by rw[e];simp[grS,Gi.ids])) (fun e=>h2 (by rw[e];simp[grS,Gi.ids]))⟩,fun j hj=> ?_⟩,o',rfl⟩;simp only[Gm.ids,zvp,zvR,zwQ,zvj,zuZ] at hj;exact hj.imp id (k1' j)))
 ·rw[zuU hk] at hN e1;obtain⟨rfl,rfl⟩:=hN;simp;exact bad _ 1 e1
theorem GrpP.ne{g:XH}{o:Gi}{m:Gm}(h:GrpP g o m){i j:Nat}(hi:i∈o.ids)(hj:j∈m.ids):i≠j:=(zvM.1 h.nd).2.2 i hi j hj
theorem GrpP.setC{g H:XH}{o:Gi}{m:Gm}(h:GrpP g o m){c':List Pa}(hs:∀j∈o.ids++m.ids,j≠o.c→H[j]? =g[j]?)(hc:zal H o.c c'):GrpP H o {m with c:=c'}:=by
 have hP:=h;obtain⟨nd,⟨w,h1,h2⟩,⟨w1,h3,h4⟩,⟨w2,h5,h6⟩,h7,h8⟩:=h;have n1:=(zvM.1 nd).1;simp[Gi.ids] at n1;obtain⟨⟨a1,a2,a3,a4,a5,a6⟩,⟨b2,b3,b4,b5,b6⟩,⟨c3,c4,c5,c6⟩,⟨d4,d5,d6⟩,⟨e5,e6⟩,f6⟩:=n1;have q:∀i∈o.ids,i≠o.c→H[i]? =g[i]? :=fun i hi=>hs i (zvn _ hi);refine⟨nd,⟨w,?_,?_⟩,⟨w1,?_,?_⟩,⟨w2,?_,?_⟩,hc,fun x hx=>(h8 x hx).same fun i hi=>hs i (zvJ _ (zvz.2 ⟨x,hx,hi⟩)) fun e=>hP.ne (i:=o.c) (by simp[Gi.ids]) (zvz.2 ⟨x,hx,hi⟩) e.symm⟩
 ·rw[q o.i (by simp[Gi.ids]) a6];exact h1
 ·rw[q o.l (by simp[Gi.ids]) b6];exact h2
 ·rw[q o.t (by simp[Gi.ids]) c6];exact h3
 ·rw[q o.tk (by simp[Gi.ids]) d6];exact h4
 ·rw[q o.s (by simp[Gi.ids]) e6];exact h5
 ·rw[q o.sk (by simp[Gi.ids]) f6];exact h6
theorem GrpP.setT{g H:XH}{o:Gi}{m:Gm}(h:GrpP g o m){t':List Rw}(hs:∀j∈o.ids++m.ids,j≠o.t→j≠o.tk→H[j]? =g[j]?)(ht:Zd 145 140 H o.t o.tk t'):GrpP H o {m with t:=t'}:=by
 have hP:=h;obtain⟨nd,⟨w,h1,h2⟩,_,⟨w2,h5,h6⟩,h7,h8⟩:=h;have h7:g[o.c]? =_:=h7;have n1:=(zvM.1 nd).1;simp[Gi.ids] at n1;obtain⟨⟨a1,a2,a3,a4,a5,a6⟩,⟨b2,b3,b4,b5,b6⟩,⟨c3,c4,c5,c6⟩,⟨d4,d5,d6⟩,⟨e5,e6⟩,f6⟩:=n1;have q:∀i∈o.ids,i≠o.t→i≠o.tk→H[i]? =g[i]? :=fun i hi=>hs i (zvn _ hi);refine⟨nd,⟨w,?_,?_⟩,ht,⟨w2,?_,?_⟩,?_,fun x hx=>(h8 x hx).same fun i hi=>hs i (zvJ _ (zvz.2 ⟨x,hx,hi⟩)) (fun e=>hP.ne (i:=o.t) (by simp[Gi.ids]) (zvz.2 ⟨x,hx,hi⟩) e.symm) fun e=>hP.ne (i:=o.tk) (by simp[Gi.ids]) (zvz.2 ⟨x,hx,hi⟩) e.symm⟩
 ·rw[q o.i (by simp[Gi.ids]) a2 a3];exact h1
 ·rw[q o.l (by simp[Gi.ids]) b2 b3];exact h2
 ·rw[q o.s (by simp[Gi.ids]) (fun e=>c4 e.symm) (fun e=>d4 e.symm)];exact h5
 ·rw[q o.sk (by simp[Gi.ids]) (fun e=>c5 e.symm) (fun e=>d5 e.symm)];exact h6
 ·unfold zal;rw[q o.c (by simp[Gi.ids]) (fun e=>c6 e.symm) (fun e=>d6 e.symm)];exact h7
theorem GrpP.setE{g H:XH}{o:Gi}{m:Gm}(h:GrpP g o m){a b:List (Eo×Ent)}{x:Eo×Ent}(hm:m.ms=a++x::b){o':Eo}{e':Ent}{js':List Jo}(ho:o'.i=x.1.i)(hids:∀j∈o'.ids,j∈x.1.ids∨g.length≤j)(hE:EntP H o' e')(hk:e'.id=x.2.id∧e'.j=x.2.j∧e'.fx=x.2.fx∧e'.first=x.2.first)(hs:∀j,j<g.length→¬esS x.1 o.s o.sk j→H[j]? =g[j]?)(hst:j8 H o.s o.sk js'):GrpP H o {m with js:=js',ms:=a++(o',e')::b}:=by
 have hP:=h;have hlt:=h.lt;obtain⟨nd,⟨w,h1,h2⟩,⟨w1,h3,h4⟩,_,h7,h8⟩:=h;have h7:g[o.c]? =_:=h7;have n1:=(zvM.1 nd).1;simp[Gi.ids] at n1;obtain⟨⟨a1,a2,a3,a4,a5,a6⟩,⟨b2,b3,b4,b5,b6⟩,⟨c3,c4,c5,c6⟩,⟨d4,d5,d6⟩,⟨e5,e6⟩,f6⟩:=n1;have hx:x∈m.ms:=by rw[hm];simp
 have hxm:∀j∈x.1.ids,j∈m.ids:=fun j hj=>zvz.2 ⟨x,hx,hj⟩;have q:∀i∈o.ids,i≠o.s→i≠o.sk→H[i]? =g[i]? :=fun i hi k1 k2=>hs i (hlt i (zvn _ hi)) fun e=>by
  rcases e with e|e|e
  ·exact hP.ne hi (hxm i e) rfl
  ·exact k1 e
  ·exact k2 e
 have hmi:m.ids=a.flatMap (fun x=>x.1.ids)++(x.1.ids++b.flatMap (fun x=>x.1.ids)):=by unfold Gm.ids;rw[hm];simp
 rw[hmi] at nd hlt hxm;have hP2:=hP;have sub:∀y∈a++b,y∈m.ms:=fun y hy=>by rw[hm];rw[zuZ] at hy⊢;exact hy.imp id (zvN _)
 have enc:Yo (o',e')=Yo x:=by simp[Yo,hk.1,hk.2.1,hk.2.2.1,hk.2.2.2,ho]
 generalize hA:a.flatMap (fun x:Eo×Ent=>x.1.ids)=A at *;generalize hB:b.flatMap (fun x:Eo×Ent=>x.1.ids)=B at *;have hAx:∀y∈a++b,∀j∈y.1.ids,j∈A++B:=fun y hy j hj=>by
  rw[zuZ] at hy⊢;rcases hy with hy|hy
  ·exact .inl (hA▸zvz.2 ⟨y,hy,hj⟩)
  ·exact .inr (hB▸zvz.2 ⟨y,hy,hj⟩)
 simp only[zvM,zuZ] at nd;obtain⟨nO,⟨nA,⟨nX,nB,nXB⟩,nAXB⟩,nOm⟩:=nd;have dis:∀y∈a++b,∀j∈y.1.ids,j∉x.1.ids:=fun y hy j hj hjx=>by
  have:=hAx y hy j hj;rw[zuZ] at this;rcases this with h|h
  ·exact nAXB j h j (.inl hjx) rfl
  ·exact nXB j hjx j h rfl
 have ltA:∀j,j∈A∨j∈B→j<g.length:=fun j hj=>hlt j (by simp only[zuZ];rcases hj with h|h<;>simp[h]);have ltO:∀j∈o.ids,j<g.length:=fun j hj=>hlt j (by simp only[zuZ];exact .inl hj);refine⟨?_,⟨w,?_,?_⟩,⟨w1,?_,?_⟩,hst,?_,?_⟩
 ·simp only[Gm.ids,zvp,zvR,hA,hB,zvM,zuZ];refine⟨nO,⟨nA,⟨hE.nd,nB,fun j hj k hk e=> ?_⟩,fun j hj k hk e=> ?_⟩,fun j hj k hk e=> ?_⟩
  ·subst e;rcases hids j hj with h|h
   ·exact nXB j h j hk rfl
   ·have:=ltA j (.inr hk);omega
  ·subst e;rcases hk with hk|hk
   ·rcases hids j hk with h|h
    ·exact nAXB j hj j (.inl h) rfl
    ·have:=ltA j (.inl hj);omega
   ·exact nAXB j hj j (.inr hk) rfl
  ·subst e;rcases hk with hk|hk|hk
   ·exact nOm j hj j (.inl hk) rfl
   ·rcases hids j hk with h|h
    ·exact nOm j hj j (.inr (.inl h)) rfl
    ·have:=ltO j hj;omega
   ·exact nOm j hj j (.inr (.inr hk)) rfl
 ·rw[q o.i (by simp[Gi.ids]) a4 a5,h1,hm];simp
 ·rw[q o.l (by simp[Gi.ids]) b4 b5,h2,hm];simp only[zvp,zvR,enc]
 ·rw[q o.t (by simp[Gi.ids]) c4 c5];exact h3
 ·rw[q o.tk (by simp[Gi.ids]) d4 d5];exact h4
 ·unfold zal;rw[q o.c (by simp[Gi.ids]) (fun e=>e6 e.symm) (fun e=>f6 e.symm)];exact h7
 ·intro y hy;simp only[zuZ,zu2] at hy;by_cases hyx:y=(o',e')
  ·subst hyx;exact hE
  ·have hy':y∈a++b:=by
    rw[zuZ];rcases hy with h|h|h
    ·exact .inl h
    ·exact absurd h hyx
    ·exact .inr h
   refine(h8 y (sub y hy')).same fun j hj=>hs j ((h8 y (sub y hy')).lt j hj) fun e=> ?_;rcases e with e|e|e
   ·exact dis y hy' j hj e
   ·exact hP2.ne (i:=o.s) (by simp[Gi.ids]) (zvz.2 ⟨y,sub y hy',hj⟩) e.symm
   ·exact hP2.ne (i:=o.sk) (by simp[Gi.ids]) (zvz.2 ⟨y,sub y hy',hj⟩) e.symm
theorem zfY(e:Ent)(d:Int×Sta):(zz e d).2.id=e.id∧(zz e d).2.j=e.j∧(zz e d).2.fx=e.fx∧(zz e d).2.first=e.first:=by
 unfold zz;split
 ·exact⟨rfl,rfl,rfl,rfl⟩
 ·split<;>exact⟨rfl,rfl,rfl,rfl⟩
theorem zej(t:List Rw)(js:List Jo)(e:Ent):(yq t js e).2.1.id=e.id∧(yq t js e).2.1.j=e.j∧(yq t js e).2.1.fx=e.fx∧(yq t js e).2.1.first=e.first:=by
 unfold yq;split
 ·exact⟨rfl,rfl,rfl,rfl⟩
 ·simp only;split
  ·exact⟨rfl,rfl,rfl,rfl⟩
  ·split<;>exact⟨rfl,rfl,rfl,rfl⟩
theorem zfT(js:List Jo)(e:Ent):(yQ js e).2.1.id=e.id∧(yQ js e).2.1.j=e.j∧(yQ js e).2.1.fx=e.fx∧(yQ js e).2.1.first=e.first:=by
 unfold yQ;split
 ·exact⟨rfl,rfl,rfl,rfl⟩
 ·split
  ·exact⟨rfl,rfl,rfl,rfl⟩
  ·simp only;split<;>exact⟨rfl,rfl,rfl,rfl⟩
theorem zcb(t:List Rw)(js:List Jo)(e:Ent)(c:Cmd):(yi t js e c).2.1.id=e.id∧(yi t js e c).2.1.j=e.j∧(yi t js e c).2.1.fx=e.fx∧(yi t js e c).2.1.first=e.first:=by
 unfold yi
 repeat' split
 all_goals first|exact zfY _ _|exact zej _ _ _|exact zfT _ _
def ZY(m:Gm)(c:Cmd):Int×List Pa:=if(yb m c.id).isNone∨(yb m c.id2).isNone then(3,m.c) else jY m.c c.id c.id2 c.n
theorem zqy{g:XH}{o:Gi}{m:Gm}(h:GrpP g o m)(hL:GrpL m)(c:Cmd):Cl C (grS o m) 27 [.s (.ptr o.i 0 0),.agg (yV c)] g fun u g'=>u=fi (ZY m c).1∧GrpS g o m g' {m with c:=(ZY m c).2}:=by
 have hP:=h;obtain⟨nd,⟨w,hi,hl⟩,_,_,hc,_⟩:=h;have li:=zd hi;have hci:g[o.c]? =_:=hc;have lc:=zd hci;refine Cl.ip rfl (zuI rfl) fun Ψ hΨ=> ?_;simp;refine zb.go0 (Qz hP.app hL c.id) ?_;rw[Ya];have hml:=zaP (yb m c.id);generalize zjo (yb m c.id)=F at *;simp[hml];refine zb.go0 (Qz hP.app hL c.id2) ?_;rw[Ya];have hml2:=zaP (yb m c.id2);generalize zjo (yb m c.id2)=F2 at *;simp[hml2];have bad:∀J,((yb m c.id).isNone∨(yb m c.id2).isNone)→Gh (grS o m) g Ψ (fi 3) (g++J):=fun J h=>Gh.here (hΨ _ _ (by unfold ZY;rw[zuS h];exact⟨rfl,GrpS.here hP⟩));cases h1:yb m c.id with
 |none=>
  simp;exact bad _ (.inl (by rw[h1];rfl))
 |some x=>
  cases h2:yb m c.id2 with
  |none=>
   simp;exact bad _ (.inr (by rw[h2];rfl))
  |some y=>
   have e1:ZY m c=jY m.c c.id c.id2 c.n:=by unfold ZY;rw[zuU (by rw[h1,h2];simp)]
   simp[hi,li];refine zb.go (zsZ hc.app hL.c hL.cu c.id c.id2 c.n) (fun z hz e=> .inr (by rw[e];simp[grS,Gi.ids])) ?_;rintro u g' ⟨rfl,rfl⟩;simp[lc];refine Gh.here (hΨ _ _ ?_);rw[e1];have hs:∀(A:XO) (J:XH) (j:Nat),j<g.length→j≠o.c→(g.set o.c A++J)[j]? =g[j]? :=fun A J j h1 h2=>by rw[zuN (by simp;exact h1),zuT (fun e=>h2 e.symm)]
   refine⟨rfl,hP.setC (fun j hj hn=>hs _ _ j (hP.lt j hj) hn) ?_,⟨by simp,fun j h1 h2=>hs _ _ j h1 fun e=>h2 (by rw[e];simp[grS,Gi.ids])⟩,fun j hj=> .inl hj⟩;unfold zal;rw[zuN (by simp;exact lc),zu3 lc]
noncomputable def zaz(m:Gm)(k:Int)(c:Cmd)(r:Int)(m':Gm):Prop:=
 if k≠0 then r=k∧m'=m
 else if c.k=1 then r=(jW m.t c.j c.y c.r c.p).1∧m'={m with t:=(jW m.t c.j c.y c.r c.p).2}
 else if c.k=2 then r=(ZJ m c).1∧match(ZJ m c).2 with
  |some e=>∃o',m'={m with ms:=m.ms++[(o',e)]}
  |none=>m'=m
 else if c.k=10 then r=(ZY m c).1∧m'={m with c:=(ZY m c).2}
 else match yb m c.id with
  |none=>r=3∧m'=m
  |some x=>r=(yi m.t m.js x.2 c).1∧∃a b o',m.ms=a++x::b∧m'={m with js:=(yi m.t m.js x.2 c).2.2,ms:=a++(o',(yi m.t m.js x.2 c).2.1)::b}
theorem grpDo{g:XH}{o:Gi}{m:Gm}(h:GrpP g o m)(hL:GrpL m)(c:Cmd)(hp:c.p≤9223372036854775807){k:Int}(hk:∀g:XH,Cl C (fun _=>False) 24 [.agg (yV c)] g fun u g'=>u=fi k∧g'=g):Cl C (grS o m) 9 [.s (.ptr o.i 0 0),.agg (yV c)] g fun u g'=>∃r m',u=fi r∧GrpS g o m g' m'∧zaz m k c r m':=by
 have hP:=h;have hlt:=h.lt;obtain⟨nd,⟨w,hi,hl⟩,ht,_,_,_⟩:=h;have li:=zd hi;have n1:=(zvM.1 nd).1;simp[Gi.ids] at n1;obtain⟨⟨a1,a2,a3,a4,a5,a6⟩,⟨b2,b3,b4,b5,b6⟩,⟨c3,c4,c5,c6⟩,⟨d4,d5,d6⟩,⟨e5,e6⟩,f6⟩:=n1;refine Cl.ip rfl (zuI rfl) fun Ψ hΨ=> ?_;simp;refine zb.go0 (hk _) ?_;simp;refine zc (fun k0=> ?_) (fun k0=> ?_)
 ·simp at k0;simp;exact Gh.here (hΨ _ _ ⟨k,m,rfl,GrpS.here hP,by unfold zaz;rw[zuS k0];exact⟨rfl,rfl⟩⟩)
 simp at k0
 have e0:∀r m',zaz m k c r m'=(if c.k=1 then r=(jW m.t c.j c.y c.r c.p).1∧m'={m with t:=(jW m.t c.j c.y c.r c.p).2}
  else if c.k=2 then r=(ZJ m c).1∧match(ZJ m c).2 with
   |some e=>∃o',m'={m with ms:=m.ms++[(o',e)]}
   |none=>m'=m
  else if c.k=10 then r=(ZY m c).1∧m'={m with c:=(ZY m c).2}
  else match yb m c.id with
   |none=>r=3∧m'=m
   |some x=>r=(yi m.t m.js x.2 c).1∧∃a b o',m.ms=a++x::b∧m'={m with js:=(yi m.t m.js x.2 c).2.2,ms:=a++(o',(yi m.t m.js x.2 c).2.1)::b}):=fun r m'=>by
  unfold zaz;rw[zuU (by simpa using k0)]
 simp;refine zc (fun q1=> ?_) (fun q1=> ?_)
 ·simp at q1;simp[hi,li];refine zb.go (zug ht.app c3 hL.t c.j c.y c.r c.p) (fun z hz e=> .inr (by rcases e with rfl|rfl<;>simp[grS,Gi.ids])) ?_;rintro u g' ⟨rfl,w2,rfl⟩;simp;have hsame:∀(J:XH) (j:Nat),j≠o.t→j≠o.tk→(Jx 145 140 (g++J) o.t o.tk w2 (jW m.t c.j c.y c.r c.p).2)[j]? =(g++J)[j]? :=fun J j h1 h2=>by
   unfold Jx;rw[zuT (fun e=>h1 e.symm),zuT (fun e=>h2 e.symm)]
  have lt1:o.t<g.length:=hlt o.t (by simp[Gi.ids]);have lt2:o.tk<g.length:=hlt o.tk (by simp[Gi.ids])
  have hT:∀J:XH,Zd 145 140 (Jx 145 140 (g++J) o.t o.tk w2 (jW m.t c.j c.y c.r c.p).2) o.t o.tk (jW m.t c.j c.y c.r c.p).2:=fun J=>⟨w2,by
   unfold Jx;rw[zu3 (by simp;omega)],by
   unfold Jx;rw[zuT c3,zu3 (by simp;omega)]⟩
  refine Gh.here (hΨ _ _ ⟨_,_,rfl,⟨hP.setT (fun j hj h1 h2=>by rw[hsame _ j h1 h2,zq (hlt j hj)]) (hT _),⟨by simp[Jx],fun j h1 h2=> ?_⟩,fun j hj=> .inl hj⟩,by rw[e0,zuS q1];exact⟨rfl,rfl⟩⟩);rw[hsame _ j (fun e=>h2 (by rw[e];simp[grS,Gi.ids])) (fun e=>h2 (by rw[e];simp[grS,Gi.ids])),zq h1]
 simp at q1;refine zc (fun q2=> ?_) (fun q2=> ?_)
 ·simp at q2;simp;refine zb.go (zqz hP.app hL c) (fun z hz e=> .inr e) ?_;rintro u g' ⟨rfl,m',hS,hm⟩;simp;exact Gh.here (hΨ _ _ ⟨_,m',rfl,⟨hS.p,hS.u.cut,fun j hj=>(hS.n j hj).imp id fun h=>zvB (by simp) h⟩,by rw[e0,zuU q1,zuS q2];exact⟨rfl,hm⟩⟩)
 simp at q2;refine zc (fun q3=> ?_) (fun q3=> ?_)
 ·simp at q3;simp;refine zb.go (zqy hP.app hL c) (fun z hz e=> .inr e) ?_;rintro u g' ⟨rfl,hS⟩;simp;exact Gh.here (hΨ _ _ ⟨_,_,rfl,⟨hS.p,hS.u.cut,fun j hj=>(hS.n j hj).imp id fun h=>zvB (by simp) h⟩,by rw[e0,zuU q1,zuU q2,zuS q3];exact⟨rfl,rfl⟩⟩)
 simp at q3;simp;refine zb.go0 (Qz hP.app hL c.id) ?_;cases hf:yb m c.id with
 |none=>
  simp[JQ];exact Gh.here (hΨ _ _ ⟨3,m,rfl,GrpS.here hP,by rw[e0,zuU q1,zuU q2,zuU q3,hf];exact⟨rfl,rfl⟩⟩)
 |some x=>
  have hx:x∈m.ms:=zv4 hf;simp[JQ,Yo];have hsub:∀z,esS x.1 o.s o.sk z→grS o m z:=fun z e=>by
   unfold grS;rw[zuZ];rcases e with e|e|e
   ·exact .inr (zvz.2 ⟨x,hx,e⟩)
   ·rw[e];exact .inl (by simp[Gi.ids])
   ·rw[e];exact .inl (by simp[Gi.ids])
  refine zb.go (zqB hP.app hL hx c hp) (fun z hz e=> .inr (hsub z e)) ?_;rintro u g' ⟨rfl,⟨o',t1,t2,t3⟩,t4,t5⟩;simp;obtain⟨a,b,hab⟩:=List.append_of_mem hx;have t6:=t5.cut;have t2':∀j∈o'.ids,j∈x.1.ids∨g.length≤j:=fun j hj=>(t2 j hj).imp id fun h=>zvB (by simp) h;refine Gh.here (hΨ _ _ ⟨_,_,rfl,⟨hP.setE hab t1 t2' t3 (zcb m.t m.js x.2 c) (fun j h1 h2=>t6.same j h1 h2) t4,t6.mono hsub,fun j hj=> ?_⟩,by rw[e0,zuU q1,zuU q2,zuU q3,hf];exact⟨rfl,a,b,o',hab,rfl⟩⟩);simp only[Gm.ids,zvp,zvR,zuZ] at hj⊢;rw[hab];simp only[zvp,zvR,zuZ];rcases hj with h|h|h
  ·exact .inl (.inl h)
  ·exact(t2' j h).imp (fun h=> .inr (.inl h)) id
  ·exact .inl (.inr (.inr h))
theorem zhn{g:XH}{o:Gi}{m:Gm}(h:GrpP g o m)(hL:GrpL m):Cl C (fun _=>False) 17 [.s (.ptr o.i 0 0)] g (qv g 184 6 m.js.length (m.js.flatMap jy)):=by obtain⟨nd,⟨w,hi,hl⟩,_,hs,_,_⟩:=h;have li:=zd hi;refine Cl.ip rfl (zuI rfl) fun Ψ hΨ=> ?_;simp[hi,li];refine zb.go (zin hs hL.s) (fun _ _ h=>h.elim) ?_;rintro u g' ⟨w1,rfl,rfl⟩;simp;exact Gh.here (hΨ _ _ ⟨w1,rfl,rfl⟩)
theorem znI{g:XH}{o:Gi}{m:Gm}(h:GrpP g o m)(hL:GrpL m)(id:ByteArray)(upto:Int):Cl C (fun _=>False) 20 [.s (.ptr o.i 0 0),fs id,fi upto] g fun u g'=>u= .s (zem (zgS m.js id upto))∧g'=g:=by obtain⟨nd,⟨w,hi,hl⟩,_,hs,_,_⟩:=h;have li:=zd hi;refine Cl.ip rfl (zuI rfl) fun Ψ hΨ=> ?_;simp[hi,li];refine zb.go0 (zoQ hs hL.s id upto) ?_;simp;exact Gh.here (hΨ _ _ ⟨rfl,rfl⟩)
theorem zlR{g:XH}{o:Gi}{m:Gm}(h:GrpP g o m)(hL:GrpL m)(id:ByteArray):Cl C (fun _=>False) 15 [.s (.ptr o.i 0 0),fs id] g fun u g'=>match yb m id with
 |some x=>∃o' J,(∀i∈o'.ids,g.length≤i)∧u= .s (.ptr o'.i 0 0)∧g'=g++J∧EntP g' o' x.2
 |none=>u= .s (.v .nilp)∧g'=g:=by
 have hP:=h;obtain⟨nd,⟨w,hi,hl⟩,_,_,_,he⟩:=h;have li:=zd hi;refine Cl.ip rfl (zuI rfl) fun Ψ hΨ=> ?_;simp;refine zb.go0 (Qz hP hL id) ?_;cases hf:yb m id with
 |none=>
  simp[JQ];exact Gh.pure (u':= .s (.v .nilp)) (.s (.lt (by simp))) (hΨ _ _ (by rw[hf];exact⟨rfl,rfl⟩))
 |some x=>
  have hx:x∈m.ms:=zv4 hf;simp[JQ,Yo];refine zb.go (znt (he x hx).app (hL.e x hx)) (fun _ _ h=>h.elim) ?_;rintro u g' ⟨o',J,h1,rfl,rfl,h2⟩;simp at h2⊢;exact Gh.here (hΨ _ _ (by rw[hf];exact⟨o',_,fun i hi=>zvB (by simp) (h1 i hi),rfl,rfl,h2⟩))
abbrev QQ(x:Eo×Ent):List XV:=[xs x.2.id]
theorem zeE(x:Eo×Ent):(QQ x).length=1:=rfl
theorem zeF(m:Nat)(l:List (Eo×Ent)):zt m (l.flatMap QQ):=zP (fun a=>by simp[QQ]) l
theorem ztl{g:XH}{o:Gi}{m:Gm}(h:GrpP g o m)(hL:GrpL m):Cl C (fun _=>False) 19 [.s (.ptr o.i 0 0)] g fun u g'=>u= .s (.lst 9 1 m.ms.length (m.ms.flatMap QQ))∧g'=g:=by
 obtain⟨nd,⟨w,hi,hl⟩,_,_,_,he⟩:=h;have li:=zd hi;have ll:=zd hl;have hn:=hL.n;refine Cl.ip rfl (zuI rfl) fun Ψ hΨ=> ?_;simp[hi,li];refine Lp.genG 9 1 (σ:=Nat) m.ms.length (fun k w=>[(3,.s (.sl g.length w 0 k)),(11,fi k)]) (fun k w=>g++[.own w 9 1 ((m.ms.take k).flatMap QQ)]) (fun _ _=>True) 0 (by decide) rfl (by simp[GhF]) (by simp) trivial ?_ ?_
 ·rintro q hq w2 _ hlt N hN;obtain⟨p1,cs1,o1,b1,b2,b3,b4,b5,_⟩:=(RdX.sl jG hl).atJ jG (by decide) hq;have e1:m.ms.take (q+1)=m.ms.take q++[m.ms[q]]:=zu0 hq;have hfl:((m.ms.take q).flatMap QQ).length=q:=by rw[zf zeE];simp;omega
  have hlF:∀k,zt k ((m.ms.take q).flatMap QQ):=fun k=>zeF k _;rw[e1,zvp] at hN;generalize(m.ms.take q).flatMap QQ=F at *;generalize m.ms[q]=x at *;simp[l19_0,hq,b1,b2,b3,b4,b5,Yo,hfl,show(q+1)*16≤140737488355328 by omega,yr hq (by omega)];exact yL (fun fr g'=>hN (w2+1) fr g' trivial) (by simp[QQ]) (by simp) (by simpa using hlt) (by simp[lvO,hlF])
 ·rintro w2 _;rw[zu9];simp[l19_0];refine Gh.pure (.s (.full (zuO _) (fun j=>by simp) (by simp) (by rw[zf zeE]) (.lts (zeF _ _)))) (hΨ _ _ ⟨rfl,rfl⟩)
def zdJ(p:Int)(x:Eo×Ent):Bool:=decide (x.2.first≤p)&& !(qN x.2 p).isSome
set_option maxRecDepth 8000 in
theorem ztD(x:Eo×Ent){p:Int}(hp:p≤9223372036854775807){g:XH}{a:Nat}(ha:g[a]? =some (.own 0 3 1 [xi p]))(hE:EntP g x.1 x.2)(hL:EntL x.2):Cl C (fun _=>False) 79 [.agg (Yo x),.s (.ptr a 0 0)] g fun u g'=>u=fb (zdJ p x)∧g'=g:=by
 have la:=zd ha;refine Cl.ip rfl (zuI rfl) fun Ψ hΨ=> ?_;simp[Yo,ha,la];refine zb.go0 (YV hE.app hL p hp) ?_;simp[zfa,zC,pC,zQ,zi,zD,ha,la];refine zc (fun h1=> ?_) (fun h1=> ?_)
 ·simp at h1;simp;exact Gh.pure (.s (.lt (by simp))) (hΨ _ _ ⟨by simp[zdJ,h1],rfl⟩)
 ·simp at h1;simp;exact Gh.pure (.s (.lt (by simp))) (hΨ _ _ ⟨by simp[zdJ];omega,rfl⟩)
def zcj(m:Gm)(p:Int):Bool:= !m.ms.any (zdJ p)
theorem zlP{g:XH}{o:Gi}{m:Gm}(h:GrpP g o m)(hL:GrpL m){p:Int}(hp:p≤9223372036854775807):Cl C (fun _=>False) 31 [.s (.ptr o.i 0 0),fi p] g fun u g'=>u=fb (zcj m p)∧g'=g:=by obtain⟨nd,⟨w,hi,hl⟩,_,_,_,he⟩:=h;have li:=zd hi;have hn:=hL.n;refine Cl.ip rfl (zuI rfl) fun Ψ hΨ=> ?_;simp[hi,li];refine zb.go0 (Qs (q:=zdJ p) (f:=78) (fi':=68) rfl rfl jG (by decide) (RdX.sl jG hl).app (by omega) (.inr ⟨g.length+1,79,[],[.s (.ptr g.length 0 0)],rfl,by simp,fun x hx=>ztD x hp (by simp) (he x hx).app (hL.e x hx)⟩)) ?_;simp;exact Gh.pure (.s (.lt (by simp))) (hΨ _ _ ⟨rfl,rfl⟩)
def ziO(m:Gm)(b:ByteArray):ByteArray:=match yb m b with
 |some x=>x.2.j
 |none=>⟨#[]⟩
def qD(m:Gm)(p:Int)(x:Pa):Int×Int:=yU m.t (ziO m x.b) p
def qP(m:Gm)(p:Int):Int×Int:=match m.c.find? fun x=> !((qD m p x).2==0) with
 |some x=>(0,(qD m p x).2)
 |none=>zg4 m.c (m.c.map fun x=>(qD m p x).1)
theorem len5{α:Type}{l:List α}(h:l.length=5):∃a b c d e,l=[a,b,c,d,e]:=by
 match l,h with
 |[a,b,c,d,e],_=>exact⟨_,_,_,_,_,rfl⟩
theorem ztB(m:Gm)(b:ByteArray):(zjo (yb m b))[1]? =some (xs (ziO m b)):=by unfold ziO;cases yb m b<;>rfl
theorem znG{g:XH}{o:Gi}{m:Gm}(h:GrpP g o m)(hL:GrpL m)(p:Int):Cl C (fun _=>False) 36 [.s (.ptr o.i 0 0),fi p] g fun u g'=>u= .tup [fi (qP m p).1,fi (qP m p).2]∧g'=g:=by
 have hP:=h;obtain⟨nd,⟨w,hi,hl⟩,ht,_,hc,_⟩:=h;have li:=zd hi;have hcl:=hL.c;have htl:=hL.t;refine Cl.ip rfl (zuI rfl) fun Ψ hΨ=> ?_;simp[hi,li];refine zb.go0 (Fresh.frz (zfP hc (by omega)) (znq _ _) (by rw[zf yk])) ?_;simp;refine Lp.genG 3 1 (σ:=Nat) m.c.length (fun k w=>[(7,.s (.sl g.length w 0 k)),(21,fi k)]) (fun k w=>g++[.own w 3 1 (((m.c.take k).map fun x=>(qD m p x).1).flatMap zR)]) (fun k _=>∀x∈m.c.take k,(qD m p x).2=0) 0 (by decide) rfl (by simp[GhF]) (by simp) (fun x hx=>by simp at hx) ?_ ?_
 ·rintro q hq w2 hok hlt N hN;obtain⟨a1,a2,a3⟩:=atX yk hq;have e1:m.c.take (q+1)=m.c.take q++[m.c[q]]:=zu0 hq;have hfl:(((m.c.take q).map fun x=>(qD m p x).1).flatMap zR).length=q:=by rw[zf zG];simp;omega
  have hlF:∀k,zt k (((m.c.take q).map fun x=>(qD m p x).1).flatMap zR):=fun k=>znn k _;have hfind:m.c.find? (fun x=> !((qD m p x).2==0))=if(qD m p m.c[q]).2=0 then(m.c.drop (q+1)).find? (fun x=> !((qD m p x).2==0)) else some m.c[q]:=by
   conv=>lhs;rw[←zvk q m.c]
   rw[zxy,zwE.2 (fun x hx=>by simp[hok x hx]),zvq hq,zxs];by_cases hz:(qD m p m.c[q]).2=0
   ·simp[hz]
   ·have hb:(!((qD m p m.c[q]).2==0))=true:=by simpa using hz
    rw[hb,zuU hz];rfl
  rw[e1,zvs,zvp] at hN;simp only[zuZ] at hN;generalize((m.c.take q).map fun x=>(qD m p x).1).flatMap zR=F at *;generalize m.c[q]=x at *;simp[l36_0,hq,a1,a2,jZ];refine zb.go0 (Qz hP.app hL x.b) ?_;rw[Ya];have hml:=zaP (yb m x.b);have hj:=ztB m x.b;generalize zjo (yb m x.b)=M at *;obtain⟨m0,m1,m2,m3,m4,rfl⟩:=len5 hml;simp at hj;subst hj;simp[hi,li];refine zb.go0 (zhO ht.app (by omega) (ziO m x.b) p) ?_;have hnx:yU m.t (ziO m x.b) p=qD m p x:=rfl;rw[hnx];simp;refine zc (fun c1=> ?_) (fun c1=> ?_)
  ·simp at c1;simp;exact Gh.pure (.t2 .i .i) (hΨ _ _ ⟨by unfold qP;rw[hfind,zuU c1],rfl⟩)
  simp at c1;simp[hfl,show(q+1)*8≤140737488355328 by omega,yr hq (by omega)];refine yL (fun fr g'=>hN (w2+1) fr g' ?_) (by simp) (by simp) (by simpa using hlt) (by simp[lvO,hlF]);rintro y (hy|hy)
  ·exact hok y hy
  ·rw[zvm] at hy;subst hy;exact c1
 ·rintro w2 hok;rw[zu9] at hok⊢;simp[l36_0];have hfn:m.c.find? (fun x=> !((qD m p x).2==0))=none:=zwE.2 fun x hx=>by simp[hok x hx]
  have hml:(m.c.map fun x=>(qD m p x).1).length=m.c.length:=by simp
  have hA:=fun G (h:RdX G 3 1 zR (.sl g.length w2 0 m.c.length) (m.c.map fun x=>(qD m p x).1))=>zng (RdX.lst G m.c) h (by omega);refine zb.go0 (hA _ (by rw[←hml];exact RdX.sl zG (by simp))) ?_;simp;exact Gh.pure (.t2 .i .i) (hΨ _ _ ⟨by unfold qP;rw[hfn],rfl⟩)
theorem zmZ(a b:List It):(zgZ a b).length≤a.length+b.length:=by have:=zan (a++b) [];simp only[zuQ,zwb] at this;unfold zgZ;rw[zJ];omega
theorem zlt(l:List It)(fx:Int):(j9 l fx).2.1.length≤20:=by
 unfold j9;split
 ·simp
 ·split
  ·simp
  ·split
   ·simp
   ·rename_i h _ _;simp;omega
def QM(p:Int):List (Eo×Ent)→List It→Int→Int×List It×Int
 |[],it,d=>(0,it,d)
 |x::l,it,d=>match qN x.2 p with
  |none=>QM p l it d
  |some q=>if(j9 (qj q) x.2.fx).1≠0 then((j9 (qj q) x.2.fx).1,[],0) else QM p l (zgZ it (j9 (qj q) x.2.fx).2.1) (wr (d+(j9 (qj q) x.2.fx).2.2))
structure Rep where
 items:List It
 diff:Int
 total:Int
 asset:Int
def zbg(r:Rep):List XV:=[zaN r.items,xi r.diff,xi r.total,xi r.asset]
def Zu(m:Gm)(p:Int):Int×Rep:=
 if¬zm p=true then(1,⟨[],0,0,0⟩)
 else if¬zcj m p=true then(8,⟨[],0,0,0⟩)
 else
  let s:=QM p m.ms [] 0
  if s.1≠0 then(s.1,⟨[],0,0,0⟩)
  else if(qP m p).2≠0 then((qP m p).2,⟨[],0,0,0⟩)
  else(0,⟨s.2.1,s.2.2,wr (zjY s.2.1+s.2.2),(qP m p).1⟩)
set_option maxRecDepth 8000 in
set_option maxHeartbeats 1000000 in
theorem zlS{g:XH}{o:Gi}{m:Gm}(h:GrpP g o m)(hL:GrpL m)(p:Int):Cl C (fun _=>False) 10 [.s (.ptr o.i 0 0),fi p] g fun u g'=>u= .tup [.agg (zbg (Zu m p).2),fi (Zu m p).1]∧g'=g:=by
 have hP:=h;obtain⟨nd,⟨w,hi,hl⟩,_,_,_,he⟩:=h;have li:=zd hi;have ll:=zd hl;have hn:=hL.n;refine Cl.ip rfl (zuI rfl) fun Ψ hΨ=> ?_;have lx:∀n:Int,lvV g.length (xi n):=fun n=>by simp
 have bad:∀(J:XH) (e:Int),Zu m p=(e,⟨[],0,0,0⟩)→Gh (fun _=>False) g Ψ (.tup [.agg [.v .nils,xi 0,xi 0,xi 0],fi e]) (g++J):=fun J e h=>Gh.pure (.t2 (.agg (.cons (.nil (t:=43) (z:=2)) (.cons (.lt (lx _)) (.cons (.lt (lx _)) (.cons (.lt (lx _)) .nil))))) .i) (hΨ _ _ ⟨by rw[h];rfl,rfl⟩);simp;refine zb.pure (Zc ..) ?_;simp;refine zc (fun c1=> ?_) (fun c1=> ?_)
 rotate_left
 ·simp;exact bad _ 1 (by simp[Zu,c1])
 have hp:p≤9223372036854775807:=by simp[zm] at c1;omega
 simp;refine zb.go0 (zlP hP.app hL hp) ?_;simp;refine zc (fun c2=> ?_) (fun c2=> ?_)
 rotate_left
 ·simp;exact bad _ 8 (by simp[Zu,c1,c2])
 have e1:Zu m p=if(QM p m.ms [] 0).1≠0 then((QM p m.ms [] 0).1,⟨[],0,0,0⟩)
  else if(qP m p).2≠0 then((qP m p).2,⟨[],0,0,0⟩)
  else(0,⟨(QM p m.ms [] 0).2.1,(QM p m.ms [] 0).2.2,wr (zjY (QM p m.ms [] 0).2.1+(QM p m.ms [] 0).2.2),(qP m p).1⟩):=by
  unfold Zu;rw[zuU (by simp[c1]),zuU (by simp[c2])]
 simp[hi,li];refine Lp.genU (σ:=XV×List It×Int) m.ms.length (fun k _=>[(33,fi k)]) (fun _ s=>g++[.own 0 34 4 [.v .nils,xi 0,xi 0,xi 0],.own 0 34 4 [s.1,xi s.2.2,xi 0,xi 0]]) (fun k s=>(s.2.1=[]∧s.1= .v .nils∨s.1=zaN s.2.1)∧s.2.1.length≤20*k∧QM p m.ms [] 0=QM p (m.ms.drop k) s.2.1 s.2.2) (.v .nils,[],0) (by decide) rfl (by simp) (by simp) ⟨.inl ⟨rfl,rfl⟩,by simp,rfl⟩ ?_ ?_
 ·rintro q hq ⟨v,it,d⟩ ⟨hv,hil,hr⟩ hlt N hN;simp only at hv hil hr hN⊢;obtain⟨p1,cs1,o1,b1,b2,b3,b4,b5,_⟩:=(RdX.sl jG hl).atJ jG (by decide) hq;have hE:=he _ (zvi hq);have hEL:=hL.e _ (zvi hq);have hvl:∀n,lvV n v:=fun n=>by
   rcases hv with⟨_,h2⟩|h1
   ·rw[h2];simp
   ·rw[h1];simp
  rw[zvq hq,QM] at hr;generalize m.ms[q]=x at *;simp[l10_0,hq,b1,b2,b3,b4,b5,Yo];refine zb.go0 (YV hE.app hEL p hp) ?_;rcases hpv:qN x.2 p with _|pr
  ·rw[hpv] at hr;simp[zfa,zC,pC,zQ,zi,zD,yr hq (by omega)];exact zjy (fun fr g'=>hN (v,it,d) fr g' ⟨hv,by simp only;omega,hr⟩) rfl rfl (by simp) (by simpa using hlt) (by simp[lvO]) (by simp[lvO,hvl])
  ·rw[hpv] at hr;simp only at hr;obtain⟨cc,hcc,hcp⟩:=QD hpv;have hpl:=(hEL.cs cc hcc).2.1;rw[hcp] at hpl;simp[zfa,zC,pC,zQ,zi,zD];refine zy 4 [8] (fun _=>False) (by decide) (by decide) ?_;simp only[zu7,zvC,zvh,zvd];simp;refine zb.go0 (zjE hpl) ?_;simp;have hil2:(qj pr).length≤1000:=by simp[qj,YZ]
   refine zb.go0 (zlM (RdX.lst _ (qj pr)) hil2 x.2.fx) ?_;have hcl:=zlt (qj pr) x.2.fx;generalize j9 (qj pr) x.2.fx=cv at *;obtain⟨er,its,df⟩:=cv;simp;refine zc (fun c3=> ?_) (fun c3=> ?_)
   ·simp at c3;simp;rw[zuS (by simpa using c3)] at hr;exact bad _ er (by rw[e1,hr,zuS (by simpa using c3)])
   simp at c3;rw[zuU (by simpa using c3)] at hr;simp only at hr hcl;simp;refine zy 6 [6] (fun _=>False) (by decide) (by decide) ?_;simp only[zu7,zvC,zvh,zvd];simp;have hrd:∀G:XH,RdX G 43 2 y6 v it:=fun G=>by
    rcases hv with⟨h1,h2⟩|h1
    ·exact .inl ⟨h1,.inl h2⟩
    ·rw[h1];exact RdX.lst G it
   refine zb.go0 (fxAdd (hrd _) (RdX.lst _ its) (by omega) (by omega)) ?_;simp[yr hq (by omega)];have hal:=zmZ it its;exact zjy (fun fr g'=>hN (zaN (zgZ it its),zgZ it its,wr (d+df)) fr g' ⟨.inr rfl,by simp only;omega,hr⟩) rfl (by simp) (by simp) (by simpa using hlt) (by simp[lvO]) (by simp[lvO])
 ·rintro⟨v,it,d⟩ ⟨hv,hil,hr⟩;simp only at hv hil hr⊢;rw[List.drop_of_length_le (zuO _),QM] at hr;have hrd:∀G:XH,RdX G 43 2 y6 v it:=fun G=>by
   rcases hv with⟨h1,h2⟩|h1
   ·exact .inl ⟨h1,.inl h2⟩
   ·rw[h1];exact RdX.lst G it
  rw[hr] at e1;simp only[ne_eq,not_true_eq_false,if_false] at e1;simp[l10_0];refine zb.go0 (znG hP.app hL p) ?_;generalize qP m p=as at *;obtain⟨an,ae⟩:=as;simp;refine zc (fun c3=> ?_) (fun c3=> ?_)
  ·simp at c3;simp;exact bad _ ae (by rw[e1,zuS (by simpa using c3)])
  simp at c3;rw[zuU (by simpa using c3)] at e1;simp;refine zy 5 [6] (fun _=>False) (by decide) (by decide) ?_;simp only[zu7,zvC,zvh,zvd];simp;refine zb.go0 (zib (hrd _) (by omega)) ?_;simp;refine Gh.pure (.t2 (.agg (.cons ?_ (.cons (.lt (lx _)) (.cons (.lt (lx _)) (.cons (.lt (lx _)) .nil))))) .i) (hΨ _ _ ⟨by rw[e1];rfl,rfl⟩);rcases hv with⟨h1,h2⟩|h1
  ·rw[h1,h2];exact .nil
  ·rw[h1];exact .lt (by simp)
def unB(a b:Bu):Prop:=¬(a.c=b.c∧a.y=b.y)
theorem Qo:∀{l:List Bu},l.Pairwise unB→jx ltB l=true
 |[],_=>rfl
 |x::l,h=>by obtain⟨h1,h2⟩:=zvg.1 h;simp only[jx,zuR,zu8];refine⟨fun y hy=> ?_,Qo h2⟩;have:=h1 y hy;unfold unB at this;simp only[ltB,zvS,zuR,zuX,zwh];omega
theorem Yi(b:Bu)(l:List Bu):yE (b::l)=b.n+yE l:=by simp[yE]
theorem yR{c y:Int}{b:Bu}:jA c y b=true↔b.c=c∧b.y=y:=by simp[jA]
theorem jb(b:Bu)(l:List Bu)(c y:Int):getD (b::l) c y=if jA c y b then b.n else getD l c y:=by unfold getD;rw[zxs];cases jA c y b<;>rfl
theorem zh4(c y n:Int):∀(l:List Bu),yE (jR c y n l)=yE l-getD l c y+n
 |[]=>by
  by_cases h:n=0<;>simp[jR,yE,getD,h]
 |b::l=>by
  have ih:=zh4 c y n l;rw[jR,jb];split
  ·simp only[Yi];omega
  ·simp only[Yi,ih];omega
theorem zdZ(c y n:Int):∀(l:List Bu) (b:Bu),b∈jR c y n l→b∈l∨b=⟨c,y,n⟩
 |[],b,h=>by simp[jR] at h;exact .inr h.2
 |x::l,b,h=>by
  rw[jR] at h;split at h
  ·rename_i hk;rw[zu2] at h;rcases h with h|h
   ·exact .inr (by rw[h];simp[jA] at hk;simp[hk])
   ·exact .inl (zvN _ h)
  ·rw[zu2] at h;rcases h with h|h
   ·exact .inl (h▸zvZ)
   ·exact(zdZ c y n l b h).imp (zvN _) id
theorem zgw(c y n:Int):∀{l:List Bu},l.Pairwise unB→(jR c y n l).Pairwise unB
 |[],_=>by by_cases h:n=0<;>simp[jR,h]
 |x::l,h=>by
  obtain⟨h1,h2⟩:=zvg.1 h;rw[jR];split
  ·exact zvg.2 ⟨fun b hb=>h1 b hb,h2⟩
  ·rename_i hk;refine zvg.2 ⟨fun b hb=> ?_,zgw c y n h2⟩;rcases zdZ c y n l b hb with hb|rfl
   ·exact h1 b hb
   ·rintro⟨e1,e2⟩;exact hk (yR.2 ⟨e1,e2⟩)
theorem zde:∀(l:List Bu),yE (l.filter fun b=> !(b.n==0))=yE l
 |[]=>rfl
 |b::l=>by
  rw[zwH];split
  ·simp only[Yi,zde l]
  ·rename_i h;simp at h;simp only[Yi,zde l,h];omega
theorem zd8(l:List Bu)(c y n:Int):yE (jv l c y n)=yE l-getD l c y+n:=by unfold jv;rw[zde,zh4]
theorem zd7{l:List Bu}{c y n:Int}{b:Bu}(h:b∈jv l c y n):b∈l∨b=⟨c,y,n⟩:=zdZ c y n l b (zvP.1 h).1
theorem za1{l:List Bu}(h:l.Pairwise unB)(c y n:Int):(jv l c y n).Pairwise unB:=(zgw c y n h).sublist zwm
theorem zb0{c y c2 y2 n:Int}(hne:¬(c=c2∧y=y2)):∀(l:List Bu),getD (jR c y n l) c2 y2=getD l c2 y2
 |[]=>by
  rw[jR];split
  ·rw[jb,zuU];rw[yR];exact hne
  ·rfl
 |b::l=>by
  rw[jR];split
  ·rename_i hk;have hk:=yR.1 hk;rw[jb,jb,zuU,zuU]
   ·rw[yR];omega
   ·rw[yR];simp only;omega
  ·rw[jb,jb,zb0 hne l]
theorem zbm(c y:Int):∀{l:List Bu},l.Pairwise unB→getD (l.filter fun b=> !(b.n==0)) c y=getD l c y
 |[],_=>rfl
 |b::l,h=>by
  obtain⟨h1,h2⟩:=zvg.1 h;rw[zwH];split
  ·rw[jb,jb,zbm c y h2]
  ·rename_i hb;simp at hb;rw[jb,zbm c y h2];split
   ·rename_i hk;have hk:=yR.1 hk;rw[hb];unfold getD;rw[zwE.2];intro x hx;have:=h1 x hx;rw[yR];rintro⟨e1,e2⟩;exact this ⟨by omega,by omega⟩
   ·rfl
theorem Yb{c y c2 y2 n:Int}{l:List Bu}(h:l.Pairwise unB)(hne:¬(c=c2∧y=y2)):getD (jv l c y n) c2 y2=getD l c2 y2:=by unfold jv;rw[zbm c2 y2 (zgw c y n h),zb0 hne]
def zcG(l:List Bu):Prop:=QZ l∧l.Pairwise unB
theorem zcG.move{l:List Bu}(h:zcG l)(c y n:Int):zcG (jm l c y n).2:=by
 obtain⟨⟨h1,h2,h3⟩,h4⟩:=h;unfold jm;split
 ·exact⟨⟨h1,h2,h3⟩,h4⟩
 split
 ·exact⟨⟨h1,h2,h3⟩,h4⟩
 rename_i k2;split
 ·exact⟨⟨h1,h2,h3⟩,h4⟩
 rename_i k3;simp only[not_or,zxZ,ne_eq,Decidable.not_not,Bool.not_eq_false] at k2;refine⟨⟨by simp only;omega,fun b hb=> ?_,?_⟩,za1 h4 _ _ _⟩
 ·rcases zd7 hb with hb|rfl
  ·exact h2 b hb
  ·exact k2.1
 ·show za (yE (jv l c y (getD l c y+n)))=true;rw[zd8,show yE l-getD l c y+(getD l c y+n)=yE l+n by omega];exact k2.2
theorem zcG.reclass{l:List Bu}(h:zcG l)(c y c2 y2 n:Int):zcG (z6 l c y c2 y2 n).2:=by
 obtain⟨⟨h1,h2,h3⟩,h4⟩:=h;unfold z6;split
 ·exact⟨⟨h1,h2,h3⟩,h4⟩
 rename_i k1;split
 ·exact⟨⟨h1,h2,h3⟩,h4⟩
 rename_i k2;split
 ·exact⟨⟨h1,h2,h3⟩,h4⟩
 rename_i k3;simp only[not_or,zxZ,ne_eq,Decidable.not_not,Bool.not_eq_false] at k1 k2;have hne:¬(c=c2∧y=y2):=k1.2.2.2;refine⟨⟨by simp only;omega,fun b hb=> ?_,?_⟩,za1 (za1 h4 _ _ _) _ _ _⟩
 ·rcases zd7 hb with hb|rfl
  ·rcases zd7 hb with hb|rfl
   ·exact h2 b hb
   ·exact k2.1
  ·exact k2.2
 ·show za (yE (jv (jv l c y (getD l c y-n)) c2 y2 (getD l c2 y2+n)))=true;rw[zd8,zd8,Yb h4 hne,show yE l-getD l c y+(getD l c y-n)-getD l c2 y2+(getD l c2 y2+n)=yE l by omega];exact h3
def zf0(l:List Int)(f:Int)(n:Nat):Prop:=l.Nodup∧∀p∈l,f≤p∧p<f+(n:Int)
theorem zdb(f:Int):∀(n:Nat) {l:List Int},zf0 l f n→l.length≤n
 |0,[],_=>zuO _
 |0,x::l,h=>by have:=h.2 x (by simp);omega
 |n+1,l,h=>by
  have h2:zf0 (l.erase (f+(n:Int))) f n:=by refine⟨h.1.erase _,fun p hp=> ?_⟩;have hm:=(h.1.mem_erase_iff).1 hp;have:=h.2 p hm.2;have:=hm.1;omega
  have h3:=zdb f n h2;by_cases hm:f+(n:Int)∈l
  ·rw[List.length_erase_of_mem hm] at h3;omega
  ·rw[List.erase_of_not_mem hm] at h3;omega
theorem zf0.mono{l:List Int}{f:Int}{n k:Nat}(h:zf0 l f n)(hk:n≤k):zf0 l f k:=⟨h.1,fun p hp=>by have:=h.2 p hp;omega⟩
structure EntV(e:Ent):Prop where
 p:zm e.first=true
 hi:e.touched.length≤401
 lo:LosI e.s.l
 reg:zcG e.s.reg
 fl:zf0 e.s.filed e.first e.cs.length
 cl:e.cs.length+1=e.touched.length
 cs:∀c∈e.cs,ProC c.p∧ProL c.p∧LosI c.was.l∧za c.p.cur.tax=true
 cf:∀(k:Nat) (h:k<e.cs.length),zf0 e.cs[k].was.filed e.first k
theorem EntV.l{e:Ent}(h:EntV e):EntL e:=by have hh:=h.hi;have hc:=h.cl;have hf:=zdb _ _ h.fl;have hr:=h.reg.1.1;refine⟨⟨h.p,by omega,by omega⟩,h.lo,h.reg.1,by omega,Qo h.reg.2,by omega,h.cl,fun c hm=> ?_⟩;obtain⟨k,hk,rfl⟩:=zw0 hm;obtain⟨a1,a2,a3,a4⟩:=h.cs _ hm;have:=zdb _ _ (h.cf k hk);exact⟨a1,a2,a3,by omega,a4⟩
theorem zoa{id j:ByteArray}{fx most life first:Int}(h:zm first=true):EntV (yZ id j fx most life first):=by refine⟨h,by simp[yZ],⟨by simp[yZ],fun v hv=>by simp[yZ] at hv,by simp[yZ,zA,za],rfl⟩,⟨⟨by simp[yZ],fun b hb=>by simp[yZ] at hb,by simp[yZ,yE,za]⟩,.nil⟩,⟨.nil,fun p hp=>by simp[yZ] at hp⟩,rfl,fun c hc=>by simp[yZ] at hc,fun k hk=>by simp[yZ] at hk⟩
theorem EntV.enter{e:Ent}(h:EntV e){d:Int×Sta}(h1:LosI d.2.l)(h2:zcG d.2.reg)(h3:zf0 d.2.filed e.first e.cs.length):EntV (zz e d).2:=by
 unfold zz;split
 ·exact h
 split
 ·exact⟨h.p,by simpa using h.hi,h1,h2,h3,by simpa using h.cl,h.cs,h.cf⟩
 ·exact⟨h.p,h.hi,h1,h2,h3,h.cl,h.cs,h.cf⟩
theorem EntV.file{e:Ent}(h:EntV e)(p n:Int):EntV (zz e (jt e p n)).2:=by
 have key:LosI (jt e p n).2.l∧zcG (jt e p n).2.reg∧zf0 (jt e p n).2.filed e.first e.cs.length:=by
  unfold jt;split
  ·exact⟨h.lo,h.reg,h.fl⟩
  ·rename_i q hq;split
   ·exact⟨h.lo,h.reg,h.fl⟩
   rename_i hc;split
   ·exact⟨h.lo,h.reg,h.fl⟩
   split
   ·exact⟨h.lo,h.reg,h.fl⟩
   refine⟨h.lo,h.reg,?_,fun x hx=> ?_⟩
   ·refine zvM.2 ⟨h.fl.1,by simp,fun a ha b hb e=> ?_⟩;rw[zvm] at hb;subst hb;subst e;simp[ha] at hc
   ·simp only[zuZ,zvm] at hx;rcases hx with hx|rfl
    ·exact h.fl.2 x hx
    ·unfold qN at hq;split at hq
     ·simp at hq
     ·rename_i hlt;rw[zuL] at hq;obtain⟨c,h1,_⟩:=hq;have:=(zuM.1 h1).1;omega
 exact h.enter key.1 key.2.1 key.2.2
theorem EntV.close{e:Ent}(h:EntV e)(t:List Rw)(js:List Jo):EntV (yq t js e).2.1:=by
 have hL:=h.l;unfold yq;split
 ·exact h
 rename_i hp;simp only;have hok:=zdF t ⟨e.j,yt e.first e.touched,e.s.book,e.s.perm,e.s.judge,e.s.cap,e.s.life,e.s.up⟩ (zcv hL) h.lo (rows:=zu ltB e.s.reg) (by rw[zJ];exact hL.rl);generalize jk t ⟨e.j,yt e.first e.touched,e.s.book,e.s.perm,e.s.judge,e.s.cap,e.s.life,e.s.up⟩ (qC e) e.s.l (zu ltB e.s.reg)=m at *;split
 ·exact h
 rename_i h0;obtain⟨⟨k1,k2,k3⟩,_,k4⟩:=hok (by simpa using h0);split
 ·exact h
 simp only[Decidable.not_not] at hp;have hpp:=hp;simp[zm,yt] at hpp;have hf:=h.p;simp[zm] at hf;have hcl:=h.cl;refine⟨h.p,by simp only[zuQ,zuV];omega,k4,h.reg,?_,by simp only[zuQ,zuV];omega,fun c hc=> ?_,fun k hk=> ?_⟩
 ·exact h.fl.mono (by simp)
 ·simp only[zuZ,zvm] at hc;rcases hc with hc|rfl
  ·exact h.cs c hc
  ·exact⟨k1,k2,h.lo,k3⟩
 ·simp only[zuQ,zuV] at hk;by_cases hkl:k<e.cs.length
  ·simp only[zwF hkl];exact h.cf k hkl
  ·obtain rfl:k=e.cs.length:=by omega
   simp;exact h.fl
theorem EntV.reop{e:Ent}(h:EntV e)(js:List Jo):EntV (yQ js e).2.1:=by
 unfold yQ;split
 ·exact h
 rename_i h0;split
 ·exact h
 rename_i c hc;simp only;split
 ·exact h
 obtain⟨ys,hys⟩:=zxk.1 hc;have hcl:=h.cl;have hdl:e.cs.dropLast=ys:=by rw[hys,zxh]
 have hyl:e.cs.length=ys.length+1:=by rw[hys];simp
 have hcm:c∈e.cs:=by rw[hys];simp
 have ht:(Yh e.touched).2.length=e.touched.length-1:=by
  simp only[ne_eq,Decidable.not_not] at h0;unfold Yh at h0⊢;split at h0
  ·simp at h0
  ·split at h0
   ·simp at h0
   ·rename_i a b;rw[zuU a,zuU b,zu5];omega
 refine⟨h.p,by simp only[ht];have:=h.hi;omega,(h.cs c hcm).2.2.1,h.reg,?_,by simp only[ht,hdl];omega,fun x hx=> ?_,fun k hk=> ?_⟩
 ·simp only[hdl];have:=h.cf ys.length (by omega);simp only[hys] at this;simpa using this
 ·simp only[hdl] at hx;exact h.cs x (by rw[hys];exact zvn _ hx)
 ·simp only[hdl] at hk⊢;have:=h.cf k (by omega);simp only[hys,zwF hk] at this;exact this
theorem EntV.tell{e:Ent}(h:EntV e)(t:List Rw)(js:List Jo)(c:Cmd):EntV (yi t js e c).2.1:=by
 unfold yi;split
 ·exact h.enter h.lo h.reg h.fl
 split
 ·exact h.enter h.lo h.reg h.fl
 split
 ·exact h.enter h.lo (h.reg.move _ _ _) h.fl
 split
 ·exact h.enter h.lo (h.reg.reclass _ _ _ _ _) h.fl
 split
 ·refine h.enter ?_ ?_ ?_<;>(unfold zbq;split<;>first|exact h.lo|exact h.reg|exact h.fl)
 split
 ·refine h.enter ?_ ?_ ?_<;>(unfold zbc;split<;>first|exact h.lo|exact h.reg|exact h.fl)
 split
 ·exact h.file _ _
 split
 ·exact h.close _ _
 ·exact h.reop _
theorem zcy{js:List Jo}(h:StoL js)(id:ByteArray)(p kind of:Int)(ls:List Li):StoL (y8 js id p kind of ls).2.2:=by
 unfold y8;split
 ·exact h
 split
 ·exact h
 rename_i h1;split
 ·exact h
 rename_i h2;split
 ·exact h
 refine⟨by simp only[zuQ,zuV];omega,fun j hj=> ?_⟩;simp only[zuZ,zvm] at hj;rcases hj with hj|rfl
 ·exact h.l j hj
 ·exact Q5 (zdB (by simpa using h1))
theorem zrz{js:List Jo}(h:StoL js)(t:List Rw)(e:Ent)(c:Cmd):StoL (yi t js e c).2.2:=by
 unfold yi
 repeat' split
 all_goals try exact h
 ·unfold yq;split
  ·exact h
  simp only;split
  ·exact h
  split
  ·exact zcy h _ _ _ _ _
  ·exact zcy h _ _ _ _ _
 ·unfold yQ;split
  ·exact h
  split
  ·exact h
  simp only;split
  ·exact zcy h _ _ _ _ _
  ·exact zcy h _ _ _ _ _
theorem zlu{c:List Pa}(hl:c.length≤100)(hu:c.Pairwise unP)(s b:ByteArray)(n:Int):(jY c s b n).2.length≤100∧(jY c s b n).2.Pairwise unP:=by
 unfold jY;split
 ·exact⟨hl,hu⟩
 simp only;split
 ·exact⟨hl,hu⟩
 split
 ·exact⟨hl,hu⟩
 ·rename_i h;refine⟨by simp only[zJ];omega,?_⟩;exact((yx ltP (jI c s b (wr (Ye c s b+n)))).pairwise_iff (fun{x y} hxy=>fun e=>hxy ⟨e.1.symm,e.2.symm⟩)).2 (zaZ hu _ _ _)
theorem zmY{t:List Rw}(h:t.length≤24)(j:ByteArray)(y r p:Int):(jW t j y r p).2.length≤24:=by
 unfold jW
 repeat' split
 all_goals first|exact h|(simp only[zuQ,zuV];omega)
structure GrpV(m:Gm):Prop where
 t:m.t.length≤24
 s:StoL m.js
 n:m.ms.length≤4
 c:m.c.length≤100
 cu:m.c.Pairwise unP
 e:∀x∈m.ms,EntV x.2
theorem GrpV.l{m:Gm}(h:GrpV m):GrpL m:=⟨h.t,h.s,h.n,h.c,h.cu,fun x hx=>(h.e x hx).l⟩
theorem ztL:GrpV ⟨[],[],[],[]⟩:=⟨by simp,⟨by simp,fun j hj=>by simp at hj⟩,by simp,by simp,.nil,fun x hx=>by simp at hx⟩
theorem zje{m:Gm}{c:Cmd}{e:Ent}(h:(ZJ m c).2=some e):m.ms.length<4∧EntV e:=by
 unfold ZJ at h;split at h
 ·simp at h
 split at h
 ·simp at h
 rename_i h4;split at h
 ·simp at h
 split at h
 ·rename_i hok;simp only[zuH] at h;subst h;exact⟨by omega,zoa hok.2.2.2⟩
 ·simp at h
theorem GrpV.done{m m':Gm}(h:GrpV m){k:Int}{c:Cmd}{r:Int}(hd:zaz m k c r m'):GrpV m':=by
 unfold zaz at hd;split at hd
 ·rw[hd.2];exact h
 split at hd
 ·rw[hd.2];exact⟨zmY h.t _ _ _ _,h.s,h.n,h.c,h.cu,h.e⟩
 split at hd
 ·obtain⟨_,hd⟩:=hd;cases hq:(ZJ m c).2 with
  |none=>rw[hq] at hd;rw[hd];exact h
  |some e=>
   rw[hq] at hd;obtain⟨o',rfl⟩:=hd;obtain⟨h4,hv⟩:=zje hq;refine⟨h.t,h.s,by simp only[zuQ,zuV];omega,h.c,h.cu,fun x hx=> ?_⟩;simp only[zuZ,zvm] at hx;rcases hx with hx|rfl
   ·exact h.e x hx
   ·exact hv
 split at hd
 ·rw[hd.2];have:(ZY m c).2.length≤100∧(ZY m c).2.Pairwise unP:=by
   unfold ZY;split
   ·exact⟨h.c,h.cu⟩
   ·exact zlu h.c h.cu _ _ _
  exact⟨h.t,h.s,h.n,this.1,this.2,h.e⟩
 split at hd
 ·rw[hd.2];exact h
 ·rename_i x hx;obtain⟨_,a,b,o',hm,rfl⟩:=hd;have hxm:x∈m.ms:=zv4 hx;have hn:=h.n;rw[hm] at hn;refine⟨h.t,zrz h.s _ _ _,by simpa using hn,h.c,h.cu,fun y hy=> ?_⟩;simp only[zuZ,zu2] at hy;rcases hy with hy|rfl|hy
  ·exact h.e y (by rw[hm];simp[hy])
  ·exact(h.e x hxm).tell _ _ _
  ·exact h.e y (by rw[hm];simp[hy])
def Sor{α:Type}(lt:α→α→Bool)(l:List α):Prop:=l.Pairwise fun a b=>lt a b=true
theorem ZI{α:Type}{lt:α→α→Bool}(tr:∀a b c,lt a b=true→lt b c=true→lt a c=true){b:α}:∀{l:List α},Sor lt l→(∀x∈l,lt b x=true∨lt x b=true)→Sor lt (ZU lt b l)
 |[],_,_=>by simp[ZU,Sor]
 |x::l,h,ht=>by
  obtain⟨h1,h2⟩:=zvg.1 h;rw[ZU];split
  ·rename_i hb;refine zvg.2 ⟨fun y hy=> ?_,h⟩;rw[zu2] at hy;rcases hy with rfl|hy
   ·exact hb
   ·exact tr _ _ _ hb (h1 y hy)
  ·rename_i hb;refine zvg.2 ⟨fun y hy=> ?_,ZI tr h2 fun y hy=>ht y (zvN _ hy)⟩;have:=(jd lt b l).mem_iff.1 hy;rw[zu2] at this;rcases this with rfl|hy
   ·exact(ht x (by simp)).resolve_left hb
   ·exact h1 y hy
theorem qT{α:Type}{lt:α→α→Bool}(tr:∀a b c,lt a b=true→lt b c=true→lt a c=true):∀{l:List α},jx lt l=true→Sor lt (zu lt l)
 |[],_=> .nil
 |x::l,h=>by simp only[jx,zuR,zu8] at h;rw[zu];refine ZI tr (qT tr h.2) fun y hy=> ?_;have:=h.1 y ((yx lt l).mem_iff.1 hy);simpa[zvS] using this
theorem YL{α:Type}{lt:α→α→Bool}(as:∀a b,lt a b=true→lt b a=true→False):∀{l m:List α},l.Perm m→Sor lt l→Sor lt m→l=m
 |[],m,p,_,_=>(List.nil_perm.1 p).symm
 |x::l,[],p,_,_=>by have:=p.length_eq;simp at this
 |x::l,y::m,p,h1,h2=>by
  obtain⟨a1,a2⟩:=zvg.1 h1;obtain⟨b1,b2⟩:=zvg.1 h2;have hxy:x=y:=by
   have hx:=p.mem_iff.1 (zvZ (a:=x) (l:=l));have hy:=p.mem_iff.2 (zvZ (a:=y) (l:=m));rw[zu2] at hx hy;rcases hx with hx|hx
   ·exact hx
   rcases hy with hy|hy
   ·exact hy.symm
   exact(as _ _ (a1 y hy) (b1 x hx)).elim
  subst hxy;rw[YL as (List.perm_cons _|>.1 p) a2 b2]
theorem zgl(a b c:Bu)(h1:ltB a b=true)(h2:ltB b c=true):ltB a c=true:=by simp only[ltB,zvS,zuR,zuX,zwh] at *;omega
theorem znX(a b:Bu)(h1:ltB a b=true)(h2:ltB b a=true):False:=by simp only[ltB,zvS,zuR,zuX,zwh] at *;omega
theorem zmx{l:List Bu}(h:l.Pairwise unB):l.Nodup:=h.imp fun h e=>h (by rw[e];exact⟨rfl,rfl⟩)
theorem YE:∀{l:List Bu} {b:Bu},l.Pairwise unB→b∈l→getD l b.c b.y=b.n
 |x::l,b,h,hb=>by
  obtain⟨h1,h2⟩:=zvg.1 h;rw[jb];rw[zu2] at hb;rcases hb with rfl|hb
  ·rw[zuS (yR.2 ⟨rfl,rfl⟩)]
  ·rw[zuU,YE h2 hb];rw[yR];exact h1 b hb
theorem getD_none:∀{l:List Bu} {c y:Int},(∀b∈l,¬(b.c=c∧b.y=y))→getD l c y=0
 |[],_,_,_=>rfl
 |x::l,c,y,h=>by rw[jb,zuU (by rw[yR];exact h x (by simp)),getD_none fun b hb=>h b (zvN _ hb)]
theorem zlO{l m:List Bu}(h:l.Pairwise unB)(h':m.Pairwise unB)(p:l.Perm m)(c y:Int):getD l c y=getD m c y:=by
 by_cases hk:∃b∈l,b.c=c∧b.y=y
 ·obtain⟨b,hb,rfl,rfl⟩:=hk;rw[YE h hb,YE h' (p.mem_iff.1 hb)]
 ·have hk':∀b∈l,¬(b.c=c∧b.y=y):=fun b hb e=>hk ⟨b,hb,e⟩;rw[getD_none hk',getD_none fun b hb=>hk' b (p.mem_iff.2 hb)]
theorem zh3{c y n:Int}:∀{l:List Bu},l.Pairwise unB→∀b:Bu,b.n≠0→(b∈jR c y n l↔(b∈l∧¬(b.c=c∧b.y=y))∨b=⟨c,y,n⟩)
 |[],_,b,hb=>by
  rw[jR];split
  ·simp
  ·rename_i h;simp at h;simp;rintro rfl;exact hb h
 |x::l,h,b,hb=>by
  obtain⟨h1,h2⟩:=zvg.1 h;rw[jR];split
  ·rename_i hk;obtain⟨rfl,rfl⟩:=yR.1 hk;simp only[zu2];constructor
   ·rintro(rfl|hm)
    ·exact .inr rfl
    ·exact .inl ⟨.inr hm,fun e=>h1 b hm ⟨e.1.symm,e.2.symm⟩⟩
   ·rintro(⟨rfl|hm,hn⟩|rfl)
    ·exact absurd ⟨rfl,rfl⟩ hn
    ·exact .inr hm
    ·exact .inl rfl
  ·rename_i hk;rw[yR] at hk;simp only[zu2,zh3 h2 b hb];constructor
   ·rintro(rfl|⟨hm,hn⟩|rfl)
    ·exact .inl ⟨.inl rfl,hk⟩
    ·exact .inl ⟨.inr hm,hn⟩
    ·exact .inr rfl
   ·rintro(⟨rfl|hm,hn⟩|rfl)
    ·exact .inl rfl
    ·exact .inr (.inl ⟨hm,hn⟩)
    ·exact .inr (.inr rfl)
theorem zcu(b:Bu):∀l:List Bu,insB b l=ZU ltB b l
 |[]=>rfl
 |x::l=>by rw[insB,ZU,zcu b l]
theorem zgE{l:List Bu}(h:l.Pairwise unB)(hz:∀b∈l,b.n≠0)(c y n:Int):zii (zu ltB l) c y n=zu ltB (jv l c y n):=by
 have p:=yx ltB l;have hs:=qT zgl (Qo h);have hf:Sor ltB ((zu ltB l).filter fun b=> !jA c y b):=hs.sublist zwm;have hsor:Sor ltB (zii (zu ltB l) c y n):=by
  unfold zii;simp only;split
  ·exact hf
  ·rw[zcu];refine ZI zgl hf fun x hx=> ?_;have:=(zvP.1 hx).2;simp only[zwW,zwV,ne_eq,yR] at this;simp only[ltB,zvS,zuR,zuX,zwh];omega
 have hun:=za1 h c y n;refine YL znX ?_ hsor (qT zgl (Qo hun));refine List.Perm.trans ?_ (yx ltB (jv l c y n)).symm;have hnd:(zii (zu ltB l) c y n).Nodup:=List.Pairwise.imp (R:=fun a b=>ltB a b=true) (S:=fun a b=>a≠b) (fun{a b} h (e:a=b)=>by subst e;exact znX _ _ h h) hsor;refine(List.perm_ext_iff_of_nodup hnd (zmx hun)).2 fun b=> ?_;unfold zii jv;simp only[zvP];by_cases hb:b.n=0
 ·simp only[hb,beq_self_eq_true,Bool.not_true,zvf,and_false,iff_false];split
  ·rw[zvP];rintro⟨hm,_⟩;exact hz b (p.mem_iff.1 hm) hb
  ·rename_i hn;rw[zcu,(jd ltB _ _).mem_iff,zu2,zvP];rintro(rfl|⟨hm,_⟩)
   ·exact hn hb
   ·exact hz b (p.mem_iff.1 hm) hb
 ·rw[zh3 h b hb];have hb':(!(b.n==0))=true:=by simpa using hb
  simp only[hb',and_true];split
  ·rename_i hn;rw[zvP,p.mem_iff];simp only[zwW,zwV,ne_eq,yR];constructor
   ·exact .inl
   ·rintro(h|rfl)
    ·exact h
    ·exact absurd hn hb
  ·rw[zcu,(jd ltB _ _).mem_iff,zu2,zvP,p.mem_iff];simp only[zwW,zwV,ne_eq,yR];constructor
   ·rintro(rfl|h)
    ·exact .inr rfl
    ·exact .inl h
   ·rintro(h|rfl)
    ·exact .inr h
    ·exact .inl rfl
theorem zgF{l:List Bu}{c y n:Int}:∀b∈jv l c y n,b.n≠0:=fun b hb=>by simpa using(zvP.1 hb).2
theorem ziu{l m:List Bu}(p:l.Perm m):yE l=yE m:=zis _ p
theorem zeO{l:List Bu}(h:l.Pairwise unB)(c y:Int):getD (zu ltB l) c y=getD l c y:=by
 have p:=yx ltB l;have hu:(zu ltB l).Pairwise unB:=(qT zgl (Qo h)).imp fun{a b} hl e=>by simp only[ltB,zvS,zuR,zuX,zwh] at hl;omega
 exact zlO hu h p c y
theorem zqV{l:List Bu}(h:l.Pairwise unB)(hz:∀b∈l,b.n≠0)(c y n:Int):zkE (zu ltB l) c y n=((jm l c y n).1,zu ltB (jm l c y n).2):=by
 unfold zkE jm;simp only[zeO h,ziu (yx ltB l),zgE h hz,zJ]
 repeat' split
 all_goals rfl
theorem zjC{l:List Bu}(h:l.Pairwise unB)(hz:∀b∈l,b.n≠0)(c y c2 y2 n:Int):zaX (zu ltB l) c y c2 y2 n=((z6 l c y c2 y2 n).1,zu ltB (z6 l c y c2 y2 n).2):=by
 unfold zaX z6;simp only[zeO h,zgE h hz,zgE (za1 h _ _ _) zgF,zJ]
 repeat' split
 all_goals rfl
theorem zqW{l:List Bu}(hz:∀b∈l,b.n≠0)(c y n:Int):∀b∈(jm l c y n).2,b.n≠0:=by
 unfold jm
 repeat' split
 all_goals first|exact hz|exact zgF
theorem zjD{l:List Bu}(hz:∀b∈l,b.n≠0)(c y c2 y2 n:Int):∀b∈(z6 l c y c2 y2 n).2,b.n≠0:=by
 unfold z6
 repeat' split
 all_goals first|exact hz|exact zgF
theorem zao{s n:Int}(h:za s=true):qw s n=ziL s n:=by
 unfold qw ziL;by_cases hn:za n=true
 ·have:wr (s+n)=s+n:=Jh h hn;simp only[hn,this]
 ·simp only[hn];simp
theorem zcH{s n:Int}(h:za s=true):za (ziL s n).2=true:=by
 unfold ziL;split
 ·exact h
 split
 ·exact h
 ·rename_i hc;simpa using hc
theorem zjl(a b c:Vi)(h1:ltV a b=true)(h2:ltV b c=true):ltV a c=true:=by simp only[ltV,zvS,zuR,zuX,zwh] at *;omega
theorem ztx(a b:Vi)(h1:ltV a b=true)(h2:ltV b a=true):False:=by simp only[ltV,zvS,zuR,zuX,zwh] at *;omega
theorem zst{a b:Vi}(h:ltV a b=true):a.e≤b.e:=by simp only[ltV,zvS,zuR,zuX,zwh] at h;omega
theorem zgf(y:Int):∀{l:List Vi},Sor ltV l→yy y l=zdy l y
 |[],_=>rfl
 |v::l,h=>by
  obtain⟨h1,h2⟩:=zvg.1 h;unfold yy zdy;rw[zwH];split
  ·rename_i hv;rw[zuU (by simp[hv])];exact zgf y h2
  ·rename_i hv;rw[zuS (by simpa using hv)];congr 1;refine(List.filter_eq_self.2 fun b hb=> ?_).symm;have:=zst (h1 b hb);simp only[zwW,zvK];omega
theorem zku(y:Int):∀{l:List Vi},Sor ltV l→qq y l=zkt l y
 |[],_=>rfl
 |v::l,h=>by
  obtain⟨h1,h2⟩:=zvg.1 h;unfold qq zkt;rw[zwH];split
  ·rename_i hv;rw[zuS (by simp[hv]),zku y h2];simp[zA,zkt]
  ·rename_i hv;rw[zuU (by simpa using hv)];rw[List.filter_eq_nil_iff.2 fun b hb=> ?_]
   ·rfl
   have:=zst (h1 b hb);simp only[zuX];omega
theorem zo3(y:Int):∀(l:List Vi) (left:Int),0≤left→(∀v∈l,0≤v.n)→j7 y left l=zcE l y left
 |[],_,_,_=>rfl
 |v::l,left,h,hn=>by
  have e1:qg y left v=if y≤v.e then min v.n (max left 0) else 0:=by unfold qg;rw[show max left 0=left by omega]
  have hv:=hn v (by simp);have h0:0≤left-qg y left v:=by unfold qg;split<;>omega
  rw[j7,zcE];rw[←e1,zo3 y l _ h0 fun b hb=>hn b (zvN _ hb)]
theorem zgb(b:Vi):∀l:List Vi,insV b l=ZU ltV b l
 |[]=>rfl
 |x::l=>by rw[insV,ZU,zgb b l]
theorem zkU(o e n:Int):∀{l:List Vi},l.Pairwise zep→QL o e n l=l.map fun v=>if Yr o e v then{v with n:=v.n+n} else v
 |[],_=>rfl
 |x::l,h=>by
  obtain⟨h1,h2⟩:=zvg.1 h;rw[QL,zu6];split
  ·rename_i hk;have hl:l.map (fun v=>if Yr o e v then{v with n:=v.n+n} else v)=l:=by
    refine(zvv (g:=id) fun b hb=> ?_).trans (List.map_id l);have:=h1 b hb;simp only[Yr,zuR,zwh] at hk⊢;rw[zuU]
    ·rfl
    ·exact fun e=>this ⟨by omega,by omega⟩
   rw[hl]
  ·rw[zkU o e n h2]
theorem zkz{l:List Vi}(hs:Sor ltV l)(o e n:Int):QI l o e n=zhC l o e n:=by
 have hu:l.Pairwise zep:=hs.imp fun{a b} h=>zbt.1 (by rw[h];rfl);unfold QI zhC;by_cases c1:¬yN o=true∨e<o∨198<e∨n<1∨100000000000<n
 ·rw[zuS c1,zuS];rcases c1 with h|h|h|h|h
  ·exact .inl (by simp[ziw,h])
  ·exact .inl (by simp[ziw];omega)
  ·exact .inl (by simp[ziw];omega)
  ·exact .inr (.inl h)
  ·exact .inr (.inr (by simp[za];omega))
 ·rw[zuU c1,zuU]
  ·split
   ·rfl
   split
   ·rw[zkU o e n hu]
   ·rename_i hk;split
    ·rfl
    ·have hd:jx ltV (l++[⟨o,e,n⟩])=true:=by
      rw[yX];refine zxH.2 ⟨hu,by simp,fun a ha b hb=> ?_⟩;rw[zvm] at hb;subst hb;rintro⟨e1,e2⟩;refine hk (zwy.2 ⟨a,ha,?_⟩);simp only[Yr,zuR,zwh];exact⟨e1,e2⟩
     congr 1;rw[zgb];refine YL ztx ?_ (qT zjl hd) (ZI zjl hs fun x hx=> ?_)
     ·exact((yx ltV _).trans List.perm_append_comm).trans (jd ltV _ l).symm
     ·have:zep ⟨o,e,n⟩ x:=fun⟨e1,e2⟩=>hk (zwy.2 ⟨x,hx,by simp only[Yr,zuR,zwh];exact⟨e1.symm,e2.symm⟩⟩);simpa[zvS] using zbt.2 this
  ·intro h;refine c1 ?_;by_cases hy:yN o=true
   ·simp[ziw,hy,za] at h;omega
   ·exact .inl hy
theorem zht{l:List Vi}(h:Sor ltV l)(y:Int):Sor ltV (zdy l y):=h.sublist zwm
theorem zbx{book perm moved:Int}:Jp book perm moved=true↔za book=true∧za perm=true∧za moved=true∧za (book+perm-moved)=true:=by
 have e:book+(perm+ -moved)=book+perm-moved:=by omega
 simp only[Jp,Jq,zwj,List.all_nil,zxe,zuR,zwt,List.sum_nil,zx5,e];have h:za (-moved)=true↔za moved=true:=by simp only[za,zuX];omega
 rw[h];exact⟨fun⟨a,⟨b,c,_⟩,d⟩=>⟨b,c,a,d⟩,fun⟨a,b,c,d⟩=>⟨c,⟨a,b,c⟩,d⟩⟩
theorem zrj{n cap:Int}(hn:0<n)(hm:za n=true)(hc:zn cap=true):ju n cap=zja n cap:=by unfold ju zja;rw[zuS,zuS (by omega)];refine⟨by omega,?_⟩;simp[Zr,zn,za] at *;omega
theorem zj0{l:List Vi}(hI:LosI l)(hs:Sor ltV l)(book perm moved cap life year r:Int):(Zw l book perm moved cap life year r).1=(zgN l book perm moved cap life year r).1∧((zgN l book perm moved cap life year r).1=0→Zw l book perm moved cap life year r=zgN l book perm moved cap life year r):=by
 have hk:=zgf year hs;have hg:=zku year hs;have hkI:=hI.kept year;have hkn:∀v∈zdy l year,0≤v.n:=fun v hv=>(hkI.m v (hk▸hv)).1;unfold Zw zgN;simp only[hk,hg];split
 ·exact⟨rfl,fun h=>absurd h (by simp)⟩
 rename_i k1;by_cases k2:Jp book perm moved=true
 ·obtain⟨m1,m2,m3,m4⟩:=zbx.1 k2;simp only[k2,m1,m2,m3,m4,not_true_eq_false,if_false,or_false];generalize book+perm-moved=n at *;split
  ·rename_i hn;have hc:zn cap=true:=by
    cases h:zn cap with
    |true=>rfl
    |false=>exact absurd (.inl (by simp[h])) k1
   have hr:=Qe n cap m4;rw[zo3 year (zdy l year) (ju n cap) hr.1 hkn,zrj hn m4 hc];exact⟨rfl,fun _=>rfl⟩
  ·split
   ·rw[zkz (zht hs year)];generalize zhC (zdy l year) year (year+life) (-n)=a;obtain⟨a1,a2⟩:=a;by_cases h:a1=0
    ·subst h;exact⟨rfl,fun _=>rfl⟩
    ·simp only[zuU h];exact⟨trivial,fun h2=>absurd h2 h⟩
   ·exact⟨rfl,fun _=>rfl⟩
 ·have hne:¬za book=true∨¬za perm=true∨¬za moved=true∨¬za (book+perm-moved)=true:=by
   refine Classical.byContradiction fun h=>k2 (zbx.2 ?_);simp only[not_or,Decidable.not_not] at h;exact h
  simp only[zuS k2,zuS hne];exact⟨trivial,fun h=>absurd h (by decide)⟩
theorem zkA{a b c d:Vi}(h1:a.o=c.o)(h2:a.e=c.e)(h3:b.o=d.o)(h4:b.e=d.e):ltV a b=ltV c d:=by simp only[ltV,h1,h2,h3,h4]
theorem zld:∀{l:List Vi} {us:List Int} {b:Vi},b∈List.zipWith ZW l us→∃x∈l,b.o=x.o∧b.e=x.e
 |[],_,b,h=>by simp at h
 |_::_,[],b,h=>by simp at h
 |v::l,u::us,b,h=>by
  rw[zxw,zu2] at h;rcases h with rfl|h
  ·exact⟨v,by simp,rfl,rfl⟩
  ·obtain⟨x,hx,h1⟩:=zld h;exact⟨x,zvN _ hx,h1⟩
theorem zle:∀{l:List Vi} (us:List Int),Sor ltV l→Sor ltV (List.zipWith ZW l us)
 |[],_,_=>by simp[Sor]
 |_::_,[],_=>by simp[Sor]
 |v::l,u::us,h=>by obtain⟨h1,h2⟩:=zvg.1 h;rw[zxw];refine zvg.2 ⟨fun b hb=> ?_,zle us h2⟩;obtain⟨x,hx,e1,e2⟩:=zld hb;rw[zkA (a:=ZW v u) (c:=v) (d:=x) rfl rfl e1 e2];exact h1 x hx
theorem zoX{l:List Vi}(h:Sor ltV l)(us:List Int):Sor ltV (za5 l us):=by rw[zbJ];exact(zle us h).sublist zwm
theorem zp1{l:List Vi}(h:Sor ltV l)(o e n:Int):Sor ltV (QI l o e n).2:=by
 have hu:l.Pairwise zep:=h.imp fun{a b} h=>zbt.1 (by rw[h];rfl);rw[zkz h];unfold zhC;split
 ·exact h
 split
 ·exact h
 split
 ·refine zwX.2 (h.imp fun{a b} hl=> ?_);rw[zkA (c:=a) (d:=b)]
  ·exact hl
  all_goals(split<;>rfl)
 ·rename_i hk;split
  ·exact h
  ·simp only;rw[zgb];refine ZI zjl h fun x hx=> ?_;have:zep ⟨o,e,n⟩ x:=fun⟨e1,e2⟩=>hk (zwy.2 ⟨x,hx,by simp only[Yr,zuR,zwh];exact⟨e1.symm,e2.symm⟩⟩);simpa[zvS] using zbt.2 this
theorem zry{l:List Vi}(h:Sor ltV l){book perm moved cap life year r:Int}{res:Res}{left:List Vi}(ht:Zw l book perm moved cap life year r=(0,res,left)):Sor ltV left:=by
 have hk:Sor ltV (yy year l):=by rw[zgf year h];exact zht h year
 unfold Zw at ht;split at ht
 ·simp at ht
 split at ht
 ·simp at ht
 simp only at ht;split at ht
 ·simp only[zuK,true_and] at ht;obtain⟨_,rfl⟩:=ht;exact zoX hk _
 ·split at ht
  ·split at ht
   ·simp only[zuK,true_and] at ht;obtain⟨_,rfl⟩:=ht;exact zp1 hk _ _ _
   ·rename_i hh;simp only[zuK] at ht;exact absurd ht.1 hh
  ·simp only[zuK,true_and] at ht;obtain⟨_,rfl⟩:=ht;exact hk
theorem zeT(a b:UInt8)(x y:List UInt8):Op.bytesLess (a::x) (b::y)=true↔a.toNat<b.toNat∨(a.toNat=b.toNat∧Op.bytesLess x y=true):=by simp only[Op.bytesLess,zvS,zuR,zuX,zwh,UInt8.lt_iff_toNat_lt,←UInt8.toNat_inj]
theorem zhx(x:List UInt8):Op.bytesLess x []=false:=by cases x<;>rfl
theorem zkx:∀(x y z:List UInt8),Op.bytesLess x y=true→Op.bytesLess y z=true→Op.bytesLess x z=true
 |_,_,[],_,h=>by rw[zhx] at h;cases h
 |_,[],_::_,h,_=>by rw[zhx] at h;cases h
 |[],_::_,_::_,_,_=>by simp[Op.bytesLess]
 |a::x,b::y,c::z,h1,h2=>by
  rw[zeT] at *;rcases h1 with h1|⟨h1,k1⟩
  ·rcases h2 with h2|⟨h2,k2⟩
   ·exact .inl (by omega)
   ·exact .inl (by omega)
  ·rcases h2 with h2|⟨h2,k2⟩
   ·exact .inl (by omega)
   ·exact .inr ⟨by omega,zkx x y z k1 k2⟩
theorem zhw:∀(x:List UInt8),Op.bytesLess x x=false
 |[]=>rfl
 |a::x=>by
  cases h:Op.bytesLess (a::x) (a::x) with
  |false=>rfl
  |true=>
   rw[zeT] at h;rcases h with h|⟨_,h⟩
   ·omega
   ·rw[zhw x] at h;cases h
theorem zjk{a b c:ByteArray}(h1:ltS a b=true)(h2:ltS b c=true):ltS a c=true:=zkx _ _ _ h1 h2
theorem zbs{a b:ByteArray}(h1:ltS a b=true)(h2:ltS b a=true):False:=by have:=zjk h1 h2;unfold ltS at this;rw[zhw] at this;cases this
theorem zgm{a b:Pa}:ltP a b=true↔ltS a.s b.s=true∨(a.s=b.s∧ltS a.b b.b=true):=by simp only[ltP,zvS,zuR,z1,zuX]
theorem zji(a b c:Pa)(h1:ltP a b=true)(h2:ltP b c=true):ltP a c=true:=by
 rw[zgm] at *;rcases h1 with h1|⟨h1,k1⟩
 ·rcases h2 with h2|⟨h2,k2⟩
  ·exact .inl (zjk h1 h2)
  ·exact .inl (h2▸h1)
 ·rcases h2 with h2|⟨h2,k2⟩
  ·exact .inl (h1▸h2)
  ·exact .inr ⟨h1.trans h2,zjk k1 k2⟩
theorem znY(a b:Pa)(h1:ltP a b=true)(h2:ltP b a=true):False:=by
 rw[zgm] at *;rcases h1 with h1|⟨h1,k1⟩
 ·rcases h2 with h2|⟨h2,k2⟩
  ·exact zbs h1 h2
  ·rw[h2] at h1;exact zbs h1 h1
 ·rcases h2 with h2|⟨h2,k2⟩
  ·rw[h1] at h2;exact zbs h2 h2
  ·exact zbs k1 k2
theorem zga(b:Pa):∀l:List Pa,znK b l=ZU ltP b l
 |[]=>rfl
 |x::l=>by rw[znK,ZU,zga b l]
theorem zqN{a b:Pa}(h:ltP a b=true):unP a b:=fun⟨e1,e2⟩=>by
 rw[zgm,e1,e2] at h;rcases h with h|⟨_,h⟩
 ·exact zbs h h
 ·exact zbs h h
theorem zgB{c:List Pa}(hs:Sor ltP c)(s b:ByteArray)(v:Int):zu ltP (jI c s b v)=if v=0 then c.filter (fun x=> !Zi s b x) else znK ⟨s,b,v⟩ (c.filter fun x=> !Zi s b x):=by
 have hf:Sor ltP (c.filter fun x=> !Zi s b x):=hs.sublist zwm;have hu:c.Pairwise unP:=hs.imp fun{a b} h=>zqN h;have hd:=Q9 (zaZ hu s b v);have hsr:=qT zji hd;have hp:=yx ltP (jI c s b v);unfold jI at *;simp only at *;split
 ·rename_i h;rw[zuS h] at hsr hp;exact YL znY hp hsr hf
 ·rename_i h;rw[zuU h] at hsr hp;rw[zga];refine YL znY ?_ hsr (ZI zji hf fun x hx=> ?_)
  ·exact(hp.trans List.perm_append_comm).trans (jd ltP _ _).symm
  ·have hk:=(zvP.1 hx).2;have:unP ⟨s,b,v⟩ x:=fun⟨e1,e2⟩=>by
    simp[Zi,←e1,←e2,z1] at hk
   have:=zjj this;simpa[zvS] using this
theorem znh{c:List Pa}(hs:Sor ltP c)(hm:∀x∈c,za x.n=true)(s b:ByteArray)(n:Int):jY c s b n=Q8 c s b n:=by
 have hp:za (Ye c s b)=true:=by
  unfold Ye;split
  ·rename_i x h;exact hm x (zv4 h)
  ·decide
 unfold jY Q8;split
 ·rfl
 rename_i h1;have hn:za n=true:=by
  cases h:za n with
  |true=>rfl
  |false=>exact absurd (.inr (.inr (.inr (by simp[h])))) h1
 have hw:wr (Ye c s b+n)=Ye c s b+n:=Jh hp hn;simp only[hw];split
 ·rfl
 have hl:=congrArg List.length (zgB hs s b (Ye c s b+n));rw[zJ] at hl;rw[zgB hs s b,hl]
def PerV(e:Ent):Prop:=∀(k:Nat) (h:k<e.cs.length),e.cs[k].p.inp.p=e.first+(k:Int)
theorem zkT{e:Ent}(hk:PerV e)(p:Int):qN e p=Qc e p:=by
 unfold qN Qc;by_cases h1:p<e.first
 ·rw[zuS h1,zwE.2]
  ·rfl
  ·intro c hc;obtain⟨k,hk',rfl⟩:=zw0 hc;have:=hk k hk';simp only[zwh];omega
 ·rw[zuU h1];cases h2:e.cs.find? fun c=>c.p.inp.p==p with
  |none=>
   rw[zvT];refine Nat.le_of_not_lt fun hlt=> ?_;have h3:=hk _ hlt;have:=zwE.1 h2 _ (zvi hlt);simp only[zwh] at this;omega
  |some c=>
   have h3:=List.find?_some h2;simp only[zwh] at h3;obtain⟨k,hk',rfl⟩:=zw0 (zv4 h2);have h4:=hk k hk';have:(p-e.first).toNat=k:=by omega
   rw[this,zuW hk']
theorem zty(a b c:Wa)(h1:ltW a b=true)(h2:ltW b c=true):ltW a c=true:=by simp[ltW] at *;omega
theorem zjm(a b:Wa)(h1:ltW a b=true)(h2:ltW b a=true):False:=by simp[ltW] at *;omega
theorem zhI{c y:Int}{f:Wa→Wa}:∀{l:List Wa},Jj l→∀x:Wa,x∈ZN c y f l↔(x∈l∧qB c y x=false)∨(∃w∈l,qB c y w=true∧x=f w)∨((∀w∈l,qB c y w=false)∧x=f (zhM c y))
 |[],_,x=>by simp[ZN]
 |a::l,h,x=>by
  have hd:∀w∈l,zcY a w:=(zvg.1 h).1;have ih:=zhI (c:=c) (y:=y) (f:=f) (zvg.1 h).2 x;unfold ZN;cases hk:qB c y a with
  |true=>
   have hn:∀w∈l,qB c y w=false:=fun w hw=>by have:=hd w hw;simp[qB,zcY] at hk this⊢;intro e;have h2:=this (by rw[hk.1,e]);rw[hk.2] at h2;exact fun e2=>h2 e2.symm
   simp only[if_true,zu2];constructor
   ·rintro(rfl|hx)
    ·exact .inr (.inl ⟨a,.inl rfl,hk,rfl⟩)
    ·exact .inl ⟨.inr hx,hn x hx⟩
   ·rintro(⟨rfl|hx,h1⟩|⟨w,rfl|hw,h1,rfl⟩|⟨h1,_⟩)
    ·rw[hk] at h1;cases h1
    ·exact .inr hx
    ·exact .inl rfl
    ·rw[hn w hw] at h1;cases h1
    ·rw[h1 a (.inl rfl)] at hk;cases hk
  |false=>
   simp only[zvf,if_false,zu2];rw[ih];constructor
   ·rintro(rfl|⟨hx,h1⟩|⟨w,hw,h1,rfl⟩|⟨h1,rfl⟩)
    ·exact .inl ⟨.inl rfl,hk⟩
    ·exact .inl ⟨.inr hx,h1⟩
    ·exact .inr (.inl ⟨w,.inr hw,h1,rfl⟩)
    ·refine .inr (.inr ⟨?_,rfl⟩);rintro w (rfl|hw)
     ·exact hk
     ·exact h1 w hw
   ·rintro(⟨rfl|hx,h1⟩|⟨w,rfl|hw,h1,rfl⟩|⟨h1,rfl⟩)
    ·exact .inl rfl
    ·exact .inr (.inl ⟨hx,h1⟩)
    ·rw[hk] at h1;cases h1
    ·exact .inr (.inr (.inl ⟨w,hw,h1,rfl⟩))
    ·exact .inr (.inr (.inr ⟨fun w hw=>h1 w (.inr hw),rfl⟩))
def zW(c:List Bu)(w:Wa):Wa:=match c.find? (jA w.c w.y) with
 |some b=>{w with z:=b.n}
 |none=>w
def wO(b:Bu):Wa:=⟨b.c,b.y,b.n,0,0⟩
def wZ(b:Bu):Wa:=⟨b.c,b.y,0,0,b.n⟩
theorem QA:∀(c:List Bu) (l:List Wa),c.Pairwise unB→Jj l→∀x:Wa,x∈c.foldl qH l↔(∃w∈l,x=zW c w)∨(∃b∈c,(∀w∈l,qB b.c b.y w=false)∧x=wZ b)
 |[],l,_,_,x=>by simp[zW]
 |b::c,l,hc,hl,x=>by
  obtain⟨hb,hc'⟩:=zvg.1 hc;have hl1:Jj (qH l b):=QE (c:=b.c) (y:=b.y) (f:=fun w=>{w with z:=b.n}) (fun w=>⟨rfl,rfl⟩) hl;have hp:=zhI (c:=b.c) (y:=b.y) (f:=fun w=>{w with z:=b.n}) hl;have hk:∀w:Wa,qB b.c b.y w=true→w.c=b.c∧w.y=b.y:=fun w h=>by simpa[qB] using h
  have hno:∀w:Wa,w.c=b.c→w.y=b.y→zW c w=w:=fun w e1 e2=>by unfold zW;rw[zwE.2];intro d hd;have:=hb d hd;simp[unB] at this;simp[jA,e1,e2];intro e3 e4;exact this e3.symm e4.symm
  have hcons:∀w:Wa,qB b.c b.y w=false→zW (b::c) w=zW c w:=fun w h=>by
   have:jA w.c w.y b=false:=by simp[qB] at h;simp[jA];exact fun e1 e2=>h e1.symm e2.symm
   simp[zW,this]
  have hcons2:∀w:Wa,qB b.c b.y w=true→zW (b::c) w={w with z:=b.n}:=fun w h=>by
   obtain⟨e1,e2⟩:=hk w h;have:jA w.c w.y b=true:=by simp[jA,e1,e2]
   simp[zW,this]
  show x∈c.foldl qH (qH l b)↔_;rw[QA c (qH l b) hc' hl1 x];constructor
  ·rintro(⟨w,hw,rfl⟩|⟨d,hd,h1,rfl⟩)
   ·rcases(hp w).1 hw with⟨h1,h2⟩|⟨w0,h1,h2,rfl⟩|⟨h1,rfl⟩
    ·exact .inl ⟨w,h1,(hcons w h2).symm⟩
    ·refine .inl ⟨w0,h1,?_⟩;obtain⟨e1,e2⟩:=hk w0 h2;rw[hcons2 w0 h2,hno {w0 with z:=b.n} e1 e2]
    ·exact .inr ⟨b,by simp,h1,hno _ rfl rfl⟩
   ·refine .inr ⟨d,by simp[hd],fun w hw=> ?_,rfl⟩;cases hq:qB b.c b.y w with
    |false=>exact h1 w ((hp w).2 (.inl ⟨hw,hq⟩))
    |true=>exact h1 {w with z:=b.n} ((hp {w with z:=b.n}).2 (.inr (.inl ⟨w,hw,hq,rfl⟩)))
  ·rintro(⟨w,hw,rfl⟩|⟨d,hd,h1,rfl⟩)
   ·cases hq:qB b.c b.y w with
    |false=>exact .inl ⟨w,(hp w).2 (.inl ⟨hw,hq⟩),hcons w hq⟩
    |true=>
     obtain⟨e1,e2⟩:=hk w hq;exact .inl ⟨{w with z:=b.n},(hp {w with z:=b.n}).2 (.inr (.inl ⟨w,hw,hq,rfl⟩)),by rw[hcons2 w hq,hno {w with z:=b.n} e1 e2]⟩
   ·rcases zu2.1 hd with rfl|hd
    ·exact .inl ⟨wZ d,(hp _).2 (.inr (.inr ⟨h1,rfl⟩)),(hno _ rfl rfl).symm⟩
    ·refine .inr ⟨d,hd,fun w hw=> ?_,rfl⟩;rcases(hp w).1 hw with⟨h2,h3⟩|⟨w0,h2,h3,rfl⟩|⟨h2,rfl⟩
     ·exact h1 w h2
     ·exact h1 w0 h2
     ·have:=hb d hd;simp[unB] at this;simp[qB,zhM];exact this
theorem zeM:∀(o:List Bu) (l:List Wa),o.Pairwise unB→(∀b∈o,∀w∈l,qB b.c b.y w=false)→o.foldl qt l=l++o.map wO
 |[],l,_,_=>by simp
 |b::o,l,ho,hl=>by
  obtain⟨hb,ho'⟩:=zvg.1 ho;have e1:∀{l:List Wa},(∀w∈l,qB b.c b.y w=false)→ZN b.c b.y (fun w=>{w with o:=b.n}) l=l++[wO b]:=by
   intro l
   induction l with
   |nil=>intro _;rfl
   |cons a l ih=>
    intro h;unfold ZN;rw[h a (by simp)];simp[ih fun w hw=>h w (by simp[hw])]
  have e2:qt l b=l++[wO b]:=e1 (hl b (by simp));show o.foldl qt (qt l b)=_;rw[e2,zeM o _ ho' ?_]
  ·simp
  ·intro d hd w hw;rcases zuZ.1 hw with hw|hw
   ·exact hl d (by simp[hd]) w hw
   ·rw[zvm] at hw;subst hw;have:=hb d hd;simp[unB] at this;simp[qB,wO];exact this
theorem zeN{l:List Bu}{c y:Int}:getD l c y=match l.find? (jA c y) with
 |some b=>b.n
 |none=>0:=rfl
theorem zf5{l:List Bu}{c y:Int}(h:getD l c y≠0):∃b∈l,b.c=c∧b.y=y∧b.n=getD l c y:=by
 rw[zeN] at h⊢;cases hf:l.find? (jA c y) with
 |none=>rw[hf] at h;exact absurd rfl h
 |some b=>
  have h1:=zv4 hf;have h2:=List.find?_some hf;simp[jA] at h2;exact⟨b,h1,h2.1,h2.2,rfl⟩
theorem zlb(c:List Bu)(w:Wa)(hz:w.z=0):zW c w={w with z:=getD c w.c w.y}:=by
 unfold zW;rw[zeN];cases c.find? (jA w.c w.y) with
 |none=>simp[←hz]
 |some b=>rfl
theorem zlU:zeR.Pairwise fun a b=>a.1<b.1∨(a.1=b.1∧a.2<b.2):=by
 unfold zeR;rw[List.pairwise_flatMap];refine⟨fun c _=> ?_,?_⟩
 ·rw[zwX];refine List.pairwise_lt_range.imp fun h=> .inr ⟨rfl,?_⟩;simp only;omega
 ·refine List.pairwise_lt_range.imp fun{a b} h x hx y hy=> ?_;rw[zv2] at hx hy;obtain⟨_,_,rfl⟩:=hx;obtain⟨_,_,rfl⟩:=hy;left;simp only;omega
theorem zeS{c y:Int}:(c,y)∈zeR↔1≤c∧c≤9∧0≤y∧y≤99:=by
 unfold zeR;simp only[zvz,zv2,zwp,zuK];constructor
 ·rintro⟨a,ha,b,hb,rfl,rfl⟩;omega
 ·rintro⟨h1,h2,h3,h4⟩;exact⟨(c-1).toNat,by omega,y.toNat,by omega,by omega,by omega⟩
structure BuV(l:List Bu):Prop where
 u:l.Pairwise unB
 nz:∀b∈l,b.n≠0
 m:∀b∈l,za b.n=true
 k:∀b∈l,yJ b.c b.y=true
theorem BuV.nil:BuV []:=⟨.nil,(fun b h=>by cases h),(fun b h=>by cases h),(fun b h=>by cases h)⟩
theorem BuV.perm{l m:List Bu}(h:BuV l)(p:l.Perm m):BuV m:=⟨(p.pairwise_iff (fun{x y} hxy e=>hxy ⟨e.1.symm,e.2.symm⟩)).1 h.u,fun b hb=>h.nz b (p.mem_iff.2 hb),fun b hb=>h.m b (p.mem_iff.2 hb),fun b hb=>h.k b (p.mem_iff.2 hb)⟩
theorem BuV.getM{l:List Bu}(h:BuV l)(c y:Int):za (getD l c y)=true:=by
 by_cases h0:getD l c y=0
 ·rw[h0];rfl
 ·obtain⟨b,hb,_,_,e⟩:=zf5 h0;rw[←e];exact h.m b hb
theorem zpa{a b:Int}(ha:za a=true)(hb:za b=true):wr (a-b)=a-b:=by simp[za] at ha hb;exact ze (by omega) (by omega)
theorem zhk{o c:List Bu}(ho:BuV o)(hc:BuV c)(x:Wa):x∈zw o c↔x∈z2 o c:=by
 have hO:=zeM o [] ho.u (fun b _ w hw=>by cases hw);have hd:Jj (o.map wO):=by
  have:=zac o [] .nil
  rwa [hO,zwf] at this
 have hmove:∀k1 k2,Jn ⟨k1,k2,getD o k1 k2,0,getD c k1 k2⟩=⟨k1,k2,getD o k1 k2,getD c k1 k2-getD o k1 k2,getD c k1 k2⟩:=fun k1 k2=>by unfold Jn;simp only;rw[zpa (hc.getM _ _) (ho.getM _ _)]
 unfold zw z2;rw[(yx ltW _).mem_iff,zv2,hO,zwf,zv2];constructor
 ·rintro⟨w,hw,rfl⟩;rcases(QA c (o.map wO) hc.u hd w).1 hw with⟨v,hv,rfl⟩|⟨b,hb,h1,rfl⟩
  ·obtain⟨b,hb,rfl⟩:=zv2.1 hv;have hg:=YE ho.u hb;refine⟨(b.c,b.y),zvP.2 ⟨zeS.2 ?_,?_⟩,?_⟩
   ·have:=ho.k b hb;simp[yJ,yN] at this;omega
   ·have:=ho.nz b hb;simp[hg,this]
   ·rw[zlb _ _ rfl];show _=Jn ⟨b.c,b.y,b.n,0,getD c b.c b.y⟩;rw[←hg];exact(hmove _ _).symm
  ·have hg:=YE hc.u hb;have h0:getD o b.c b.y=0:=getD_none fun a ha=>by
    have:=h1 (wO a) (zw2 ha);simp[qB,wO] at this;exact fun e=>this e.1 e.2
   refine⟨(b.c,b.y),zvP.2 ⟨zeS.2 ?_,?_⟩,?_⟩
   ·have:=hc.k b hb;simp[yJ,yN] at this;omega
   ·have:=hc.nz b hb;simp[hg,this]
   ·have:=hmove b.c b.y;rw[h0,hg] at this;simp only[h0,hg];exact this.symm
 ·rintro⟨⟨k1,k2⟩,hk,rfl⟩;obtain⟨_,hk⟩:=zvP.1 hk;by_cases h0:getD o k1 k2=0
  ·have h1:getD c k1 k2≠0:=by simpa[h0] using hk
   obtain⟨b,hb,rfl,rfl,e⟩:=zf5 h1;refine⟨wZ b,(QA c (o.map wO) hc.u hd _).2 (.inr ⟨b,hb,?_,rfl⟩),?_⟩
   ·intro w hw;obtain⟨a,ha,rfl⟩:=zv2.1 hw;have hg:=YE ho.u ha;simp only[qB,wO,zw7,beq_eq_false_iff_ne];by_cases e1:a.c=b.c
    ·refine .inr fun e2=> ?_;rw[e1,e2] at hg;exact ho.nz a ha (by rw[←hg];exact h0)
    ·exact .inl e1
   ·have:=hmove b.c b.y;rw[h0,←e] at this;simp only[h0,←e];exact this
  ·obtain⟨b,hb,rfl,rfl,e⟩:=zf5 h0;refine⟨_,(QA c (o.map wO) hc.u hd _).2 (.inl ⟨wO b,zw2 hb,rfl⟩),?_⟩;rw[zlb _ _ rfl];have:=hmove b.c b.y;rw[←e] at this;simp only[←e];exact this
theorem zfm{α:Type}{lt:α→α→Bool}(as:∀a b,lt a b=true→lt b a=true→False){l:List α}(h:Sor lt l):l.Nodup:=h.imp fun{a b} h e=>by subst e;exact as a a h h
theorem zf3(o c:List Bu):Sor ltW (z2 o c):=by unfold z2 Sor;rw[zwX];refine(zlU.filter _).imp fun{a b} h=> ?_;simp[ltW];omega
theorem zjb{o c:List Bu}(ho:BuV o)(hc:BuV c):zw o c=z2 o c:=by have s1:Sor ltW (zw o c):=qT zty (zaG o c);have s2:=zf3 o c;exact YL zjm ((List.perm_ext_iff_of_nodup (zfm zjm s1) (zfm zjm s2)).2 (zhk ho hc)) s1 s2
def zfy(t:List Rw):Prop:=∀x∈t,zn x.r=true
theorem zh1(j:ByteArray)(y p:Int):∀(t:List Rw) (b:Option Rw) (x:Rw),t.foldl (QU j y p) b=some x→x∈t∨b=some x
 |[],b,x,h=> .inr h
 |a::t,b,x,h=>by
  rcases zh1 j y p t _ x h with h1|h1
  ·exact .inl (by simp[h1])
  ·unfold QU at h1;split at h1
   ·split at h1
    ·simp at h1;exact .inl (by simp[h1])
    ·split at h1
     ·simp at h1;exact .inl (by simp[h1])
     ·exact .inr h1
   ·exact .inr h1
theorem zd0{t:List Rw}(ht:zfy t){j:ByteArray}{y p r:Int}(h:jn t j y p=some r):zn r=true:=by
 unfold jn at h;rw[zuL] at h;obtain⟨x,h1,rfl⟩:=h;rcases zh1 j y p t none x h1 with h2|h2
 ·exact ht x h2
 ·cases h2
theorem Yg{t:List Rw}(ht:zfy t){j:ByteArray}{p:Int}:∀{ys l:List Int},zU t j p ys=some l→l.length=ys.length∧∀r∈l,zn r=true
 |[],l,h=>by simp[zU] at h;subst h;simp
 |y::ys,l,h=>by
  unfold zU at h;cases hr:jn t j (max y (p.tdiv 4)) p with
  |none=>rw[hr] at h;cases h
  |some r=>
   rw[hr] at h;simp only[zuL] at h;obtain⟨l',h1,rfl⟩:=h;obtain⟨h2,h3⟩:=Yg ht h1;refine⟨by simp[h2],fun q hq=> ?_⟩;rcases zu2.1 hq with rfl|hq
   ·exact zd0 ht hr
   ·exact h3 q hq
theorem ze4:∀{l:List Bu} {s:List Int} {c y now:Int},(∀r∈s,zn r=true)→zn now=true→zn (ZV l s c y now)=true
 |[],s,c,y,now,h,hn=>by simpa[ZV] using hn
 |_::_,[],c,y,now,h,hn=>by simpa[ZV] using hn
 |b::l,r::s,c,y,now,h,hn=>by
  unfold ZV;split
  ·exact h r (by simp)
  ·exact ze4 (fun q hq=>h q (by simp[hq])) hn
theorem zdU{op:Bal}(h:∀r∈op.r,zn r=true):∀{l:List Wa} {s:List Int},l.length=s.length→(∀r∈s,zn r=true)→(yG op l s).length=l.length∧∀r∈yG op l s,zn r=true
 |[],s,_,_=>by simp[yG]
 |w::l,[],hl,_=>by simp at hl
 |w::l,n::s,hl,hs=>by
  obtain⟨h1,h2⟩:=zdU h (l:=l) (s:=s) (by simpa using hl) (fun q hq=>hs q (by simp[hq]));refine⟨by simp[yG,h1],fun q hq=> ?_⟩;unfold yG at hq;rcases zu2.1 hq with rfl|hq
  ·exact ze4 h (hs n (by simp))
  ·exact h2 q hq
structure BalM(x:Bal):Prop where
 b:BuV x.b
 r:∀r∈x.r,zn r=true
 temp:za x.temp=true
 loss:za x.loss=true
 allow:za x.allow=true
theorem ztP:BalM Zt:=⟨.nil,(fun r h=>by cases h),rfl,rfl,rfl⟩
theorem zaF(o c:List Bu):(z2 o c).length≤900:=by unfold z2;rw[zvb];refine zvB (zwa _ _) ?_;show zeR.length≤900;decide+kernel
theorem zdo{o c:List Bu}(ho:BuV o)(hc:BuV c):∀w∈z2 o c,za w.o=true∧za w.z=true∧-200000000000≤w.m∧w.m≤200000000000:=fun w hw=>by unfold z2 at hw;obtain⟨k,_,rfl⟩:=zv2.1 hw;have h1:=ho.getM k.1 k.2;have h2:=hc.getM k.1 k.2;refine⟨h1,h2,?_,?_⟩<;>(simp[za] at h1 h2;simp only;omega)
theorem zgX{α:Type}(f:α→Int)(B:Int)(hB:0≤B)(hs:B*1000≤9000000000000000000):∀(l:List α) (n:Int) (k:Nat),(k+l.length≤1000)→(-(B*k)≤n∧n≤B*k)→(∀a∈l,-B≤f a∧f a≤B)→l.foldl (fun n a=>wr (n+f a)) n=n+(l.map f).sum
 |[],n,k,_,_,_=>by simp
 |a::l,n,k,hk,hn,hl=>by
  have ha:=hl a (by simp);have hk':k+1+l.length≤1000:=by simp at hk;omega
  have e1:B*((k+1:Nat):Int)=B*k+B:=by rw[zww,zw8];simp
  have e2:B*((k+1:Nat):Int)≤B*1000:=zwG (by omega) hB;have w:wr (n+f a)=n+f a:=ze (by omega) (by omega);simp only[zwC,w,zu6,zwt];rw[zgX f B hB hs l (n+f a) (k+1) hk' (by rw[e1];omega) (fun b hb=>hl b (by simp[hb]))];omega
theorem zn6{l:List Wa}(hl:l.length≤900)(hm:∀w∈l,-200000000000≤w.m∧w.m≤200000000000):JW l=(l.map (·.m)).sum:=by unfold JW;have:=zgX (fun w:Wa=>w.m) 200000000000 (by omega) (by omega) l 0 0 (by omega) (by omega) hm;rw[this,zxD]
theorem zrC{l:List Bu}{s:List Int}(h1:s.length=l.length)(h2:∀r∈s,zn r=true)(h3:∀b∈l,za b.n=true):jK l s=if za (jw l s)=true then(jw l s,0) else(0,6):=by unfold jK;rw[zuU (by simpa using h1),zuS (zdS l s fun k a b=>⟨h2 _ (zvi b),h3 _ (zvi a)⟩)]
theorem zsU{l:List Wa}{s t:List Int}(h1:s.length=l.length)(h2:t.length=l.length)(h3:∀r∈s,zn r=true)(h4:∀r∈t,zn r=true)(h5:∀w∈l,za w.o=true∧za w.z=true):JI l s t=if za (yD l t)=true∧za (yC l s t)=true then(yD l t,yC l s t,0) else(0,0,6):=by unfold JI;rw[zuU (by simp[h1,h2]),zuS];intro k a b c;exact⟨h3 _ (zvi b),h4 _ (zvi c),h5 _ (zvi a)⟩
theorem QG{n r v:Int}(h:zl n r=(v,0)):0≤n∧n≤100000000000∧zn r=true∧v=zg n r∧za v=true∧0≤v:=by
 unfold zl at h;split at h
 ·rename_i hh;simp at h;have h2:0≤r∧r≤1000000:=by simpa[zn] using hh.2.2
  have h1:=Qa (n:=n) (r:=r) ⟨by omega,hh.2.1⟩ h2;have h3:=zom (n:=n) (r:=r) hh.1;exact⟨hh.1,hh.2.1,hh.2.2,h.symm,by rw[←h];simp[za];omega,by rw[←h];exact h3⟩
 ·simp at h
theorem zg0(n r:Int):jX n r=if(zl n r).2=0 then(-(zl n r).1,0) else(0,(zl n r).2):=by unfold jX zl;split<;>simp
theorem zed{l:List Vi}(hI:LosI l)(hs:Sor ltV l){book perm moved cap life year r:Int}{cur:Res}{left:List Vi}(h:zgN l book perm moved cap life year r=(0,cur,left)):za cur.tax=true:=by
 have h1:=zj0 hI hs book perm moved cap life year r;have h2:Zw l book perm moved cap life year r=(0,cur,left):=by rw[h1.2 (by rw[h]),h]
 exact(zfp hI book perm moved cap life year r h2).2
def zkB(t:List Rw)(inp:Inp)(op:Bal)(l:List Vi)(reg:List Bu):Int×Pro×List Vi:=
 if¬zm inp.p=true∨¬zn inp.judge=true∨¬za inp.up=true then(1,zr,l)
 else match jn t inp.j (inp.p.tdiv 4) inp.p with
  |none=>(7,zr,l)
  |some r=>
   if(yU t inp.j inp.p).2≠0 then((yU t inp.j inp.p).2,zr,l)
   else match zU t inp.j inp.p (reg.map (·.y)) with
    |none=>(7,zr,l)
    |some rates=>
     let next:=(yU t inp.j inp.p).1
     let rows:=z2 op.b reg;let tx:=zgN l inp.book inp.perm ((rows.map (·.m)).sum) inp.cap inp.life (inp.p.tdiv 4) r
     if tx.1≠0 then(tx.1,zr,l)
     else if¬za (jw reg rates)=true then(6,zr,l)
     else
      let lf:=zA tx.2.2
      if(zl lf next).2≠0 then((zl lf next).2,zr,l)
      else if(zl (zl lf next).1 inp.judge).2≠0 then((zl (zl lf next).1 inp.judge).2,zr,l)
      else match zU t inp.j inp.p (rows.map (·.y)) with
       |none=>(7,zr,l)
       |some now=>
        let loss:=(zl lf next).1;let al:=(zl (zl lf next).1 inp.judge).1;let tm:=yD rows now;let tr:=yC rows (yG op rows now) now
        if¬za tm=true∨¬za tr=true then(6,zr,l)
        else
         let lr:=zg op.left op.next-zg op.left next
         let lm:=op.loss-loss-lr;let am:=op.allow- -al;let de:=tm+tr+lm+lr+am;let tot:=tx.2.1.tax+de+inp.up
         if[lm,lr,am,tx.2.1.tax+inp.up,jw reg rates-op.temp,loss-op.loss,-al-op.allow,de,tot].all za then(0,⟨inp,r,op,⟨inp.p,reg,rates,next,lf,jw reg rates,loss,-al⟩,tx.2.1,rows,now,tm,tr,lm,lr,am,de,tot⟩,tx.2.2) else(6,zr,l)
theorem zhF(t:List Rw)(inp:Inp)(op:Bal)(l:List Vi)(reg:List Bu):QS t inp op l reg=zkB t inp op l reg:=by
 unfold QS zkB;by_cases c1:¬zm inp.p=true∨¬zn inp.judge=true∨¬za inp.up=true
 ·rw[zuS c1,zuS c1]
 rw[zuU c1,zuU c1];dsimp only;cases jn t inp.j (inp.p.tdiv 4) inp.p with
 |none=>rfl
 |some r=>
 dsimp only;split
 rotate_left
 ·rename_i a e hne heq;have:(yU t inp.j inp.p).2≠0:=fun h=>hne (by rw[←h,heq]);rw[zuS this,heq]
 rename_i next heq
 rw[heq];simp only[ne_eq,not_true_eq_false,if_false];cases zU t inp.j inp.p (reg.map (·.y)) with
 |none=>rfl
 |some rates=>
 dsimp only;split
 rotate_left
 ·rename_i e a b hne heq;rw[heq];have:e≠0:=fun h=>hne h;rw[zuS this]
 rename_i cur left heq;rw[heq];simp only[ne_eq,not_true_eq_false,if_false];by_cases h1:¬za (jw reg rates)=true
 ·rw[zuS h1,zuS h1]
 rw[zuU h1,zuU h1];split
 rotate_left
 ·rename_i a e hne heq;rw[heq];have:e≠0:=fun h=>hne h;rw[zuS this]
 rename_i loss heq;rw[heq];simp only[ne_eq,not_true_eq_false,if_false];split
 rotate_left
 ·rename_i a e hne heq;rw[heq];have:e≠0:=fun h=>hne h;rw[zuS this]
 rename_i al heq;rw[heq];simp only[ne_eq,not_true_eq_false,if_false];cases zU t inp.j inp.p (List.map (fun x=>x.y) (z2 op.b reg))<;>rfl
set_option maxHeartbeats 2000000 in
theorem zqO{t:List Rw}(ht:zfy t)(inp:Inp){op:Bal}(hop:BalM op){l:List Vi}(hI:LosI l)(hs:Sor ltV l){reg:List Bu}(hr:BuV reg):
 (jk t inp op l reg).1=(QS t inp op l reg).1∧((QS t inp op l reg).1=0→jk t inp op l reg=QS t inp op l reg):=by
 have fe:=zjb hop.b hr;have fl:=zaF op.b reg;have fm:=zdo hop.b hr;have me:=zn6 fl (fun w hw=>⟨(fm w hw).2.2.1,(fm w hw).2.2.2⟩);rw[zhF];unfold jk zkB;rw[fe];by_cases c1:¬zm inp.p=true∨¬zn inp.judge=true∨¬za inp.up=true
 ·rw[zuS c1,zuS c1];exact⟨rfl,fun h=>by cases h⟩
 rw[zuU c1,zuU c1];simp only[not_or,Decidable.not_not] at c1;obtain⟨cp,cj,cu⟩:=c1;dsimp only;cases hr1:jn t inp.j (inp.p.tdiv 4) inp.p with
 |none=>exact⟨rfl,fun h=>by cases h⟩
 |some r=>
 dsimp only;have hrr:=zd0 ht hr1;have hn:yU t inp.j inp.p=((yU t inp.j inp.p).1,0)∨yU t inp.j inp.p=(0,7):=by
  unfold yU;rw[zuS cp];split
  ·exact .inl rfl
  ·exact .inr rfl
 rcases hn with hn|hn
 rotate_left
 ·rw[hn];exact⟨rfl,fun h=>by cases h⟩
 rw[hn];generalize(yU t inp.j inp.p).1=next at *
 simp only[ne_eq,not_true_eq_false,if_false];cases hrs:zU t inp.j inp.p (reg.map (·.y)) with
 |none=>exact⟨rfl,fun h=>by cases h⟩
 |some rates=>
 obtain⟨rl,rr⟩:=Yg ht hrs;dsimp only;rw[me];have te:=zj0 hI hs inp.book inp.perm ((z2 op.b reg).map (·.m)).sum inp.cap inp.life (inp.p.tdiv 4) r;have tm:=fun cur left=>zed hI hs (book:=inp.book) (perm:=inp.perm) (moved:=((z2 op.b reg).map (·.m)).sum) (cap:=inp.cap) (life:=inp.life) (year:=inp.p.tdiv 4) (r:=r) (cur:=cur) (left:=left);generalize zgN l inp.book inp.perm ((z2 op.b reg).map (·.m)).sum inp.cap inp.life (inp.p.tdiv 4) r=TD at *;generalize Zw l inp.book inp.perm ((z2 op.b reg).map (·.m)).sum inp.cap inp.life (inp.p.tdiv 4) r=TP at *;obtain⟨te1,te2⟩:=te;by_cases h0:TD.1=0
 rotate_left
 ·rw[zuS (by rw[te1];exact h0),zuS h0];exact⟨te1,fun h=>absurd h h0⟩
 obtain rfl:=te2 h0;obtain⟨a,cur,left⟩:=TP;simp only at h0;subst h0;have tmm:=tm cur left rfl;simp only[ne_eq,not_true_eq_false,if_false];rw[zrC (by simpa using rl) rr hr.m];by_cases h1:za (jw reg rates)=true
 rotate_left
 ·rw[zuU h1,zuS (show¬((0,6):Int×Int).2=0 by decide),zuS h1];exact⟨rfl,fun h=>by cases h⟩
 simp only[h1,if_true,ne_eq,not_true_eq_false,if_false];generalize htd:jw reg rates=temp at *;by_cases he:(zl (zA left) next).2=0
 rotate_left
 ·rw[zuS he,zuS he];exact⟨rfl,fun h=>absurd h he⟩
 simp only[he,not_true_eq_false,if_false];have hsh:zl (zA left) next=((zl (zA left) next).1,0):=by rw[←he]
 generalize(zl (zA left) next).1=loss at *;rw[zg0];by_cases he2:(zl loss inp.judge).2=0
 rotate_left
 ·rw[zuU he2,zuS (show¬((0,(zl loss inp.judge).2):Int×Int).2=0 from he2),zuS he2];exact⟨rfl,fun h=>absurd h he2⟩
 simp only[he2,if_true,not_true_eq_false,if_false];have hsh2:zl loss inp.judge=((zl loss inp.judge).1,0):=by rw[←he2]
 generalize(zl loss inp.judge).1=al at *;cases hnw:zU t inp.j inp.p ((z2 op.b reg).map (·.y)) with
 |none=>exact⟨rfl,fun h=>by cases h⟩
 |some now=>
 obtain⟨nl,nr⟩:=Yg ht hnw;dsimp only;obtain⟨ol,orr⟩:=zdU hop.r (l:=z2 op.b reg) (s:=now) (by simpa using nl.symm) nr;rw[zsU ol (by simpa using nl) orr nr (fun w hw=>⟨(fm w hw).1,(fm w hw).2.1⟩)];generalize yD (z2 op.b reg) now=mv at *;generalize yC (z2 op.b reg) (yG op (z2 op.b reg) now) now=rt at *;by_cases h2:za mv=true∧za rt=true
 rotate_left
 ·rw[zuU h2,zuS (show¬((0,0,6):Int×Int×Int).2.2=0 by decide),zuS (by rw[zwz] at h2;exact h2)];exact⟨rfl,fun h=>by cases h⟩
 simp only[h2.1,h2.2,and_self,if_true,not_true_eq_false,if_false,or_self];obtain⟨_,_,_,_,lm1,_⟩:=QG hsh;obtain⟨_,_,_,_,lm2,_⟩:=QG hsh2;obtain⟨m1,m2⟩:=h2;have b1:=zF op.left op.next
 have b2:=zF op.left next
 have q1:=hop.temp;have q2:=hop.loss;have q3:=hop.allow;simp only[za,zuX] at lm1 lm2 m1 m2 q1 q2 q3 tmm h1 cu;have w1:wr (zg op.left op.next-zg op.left next)=zg op.left op.next-zg op.left next:=ze (by omega) (by omega)
 have w2:wr (op.loss-loss)=op.loss-loss:=ze (by omega) (by omega);have w3:wr (op.loss-loss-(zg op.left op.next-zg op.left next))=op.loss-loss-(zg op.left op.next-zg op.left next):=ze (by omega) (by omega);have w4:wr (op.allow- -al)=op.allow- -al:=ze (by omega) (by omega);have w5:wr (mv+rt)=mv+rt:=ze (by omega) (by omega);have w6:wr (mv+rt+(op.loss-loss-(zg op.left op.next-zg op.left next)))=mv+rt+(op.loss-loss-(zg op.left op.next-zg op.left next)):=ze (by omega) (by omega);have w7:wr (mv+rt+(op.loss-loss-(zg op.left op.next-zg op.left next))+(zg op.left op.next-zg op.left next))=mv+rt+(op.loss-loss-(zg op.left op.next-zg op.left next))+(zg op.left op.next-zg op.left next):=ze (by omega) (by omega);have w8:wr (mv+rt+(op.loss-loss-(zg op.left op.next-zg op.left next))+(zg op.left op.next-zg op.left next)+(op.allow- -al))=mv+rt+(op.loss-loss-(zg op.left op.next-zg op.left next))+(zg op.left op.next-zg op.left next)+(op.allow- -al):=ze (by omega) (by omega);have w9:wr (cur.tax+(mv+rt+(op.loss-loss-(zg op.left op.next-zg op.left next))+(zg op.left op.next-zg op.left next)+(op.allow- -al)))=cur.tax+(mv+rt+(op.loss-loss-(zg op.left op.next-zg op.left next))+(zg op.left op.next-zg op.left next)+(op.allow- -al)):=ze (by omega) (by omega);have w10:wr (cur.tax+(mv+rt+(op.loss-loss-(zg op.left op.next-zg op.left next))+(zg op.left op.next-zg op.left next)+(op.allow- -al))+inp.up)=cur.tax+(mv+rt+(op.loss-loss-(zg op.left op.next-zg op.left next))+(zg op.left op.next-zg op.left next)+(op.allow- -al))+inp.up:=ze (by omega) (by omega);have w11:wr (cur.tax+inp.up)=cur.tax+inp.up:=ze (by omega) (by omega);have w12:wr (temp-op.temp)=temp-op.temp:=ze (by omega) (by omega);have w13:wr (loss-op.loss)=loss-op.loss:=ze (by omega) (by omega);have w14:wr (-al-op.allow)= -al-op.allow:=ze (by omega) (by omega);simp only[Ji,yP,w1,w2,w3,w4,w5,w6,w7,w8,w9,w10,w11,w12,w13,w14];split
 ·exact⟨rfl,fun _=>rfl⟩
 ·exact⟨rfl,fun h=>by cases h⟩
structure ProM(p:Pro):Prop where
 tax:za p.cur.tax=true
 up:za p.inp.up=true
 tu:za (p.cur.tax+p.inp.up)=true
 de:za p.deferred=true
 dt:za (p.cl.temp-p.op.temp)=true
 dl:za (p.cl.loss-p.op.loss)=true
 da:za (p.cl.allow-p.op.allow)=true
 tr:za p.tr=true
 lr:za p.lr=true
 am:za p.am=true
 tot:za p.total=true
 un: -4000000000000≤p.cur.used-p.cur.new∧p.cur.used-p.cur.new≤4000000000000
 rows:p.rows.length≤900
 cl:BalM p.cl
theorem zhy{p:Pro}(h:ProM p):j0 p=yW p:=by
 obtain⟨h1,h2,h3,h4,h5,h6,h7,_,_,_,_,_,_,_⟩:=h;simp only[za,zuX] at h1 h2 h3 h4 h5 h6 h7;have w1:wr (-p.cur.tax)= -p.cur.tax:=ze (by omega) (by omega);have w2:wr (-p.cur.tax-p.inp.up)= -p.cur.tax-p.inp.up:=ze (by omega) (by omega);have w3:wr (p.cl.temp-p.op.temp)=p.cl.temp-p.op.temp:=ze (by omega) (by omega);have w4:wr (p.cl.loss-p.op.loss)=p.cl.loss-p.op.loss:=ze (by omega) (by omega);have w5:wr (p.cl.allow-p.op.allow)=p.cl.allow-p.op.allow:=ze (by omega) (by omega);have hf:zaD (Y1 p)=true:=by simp[zaD,Y1,w1,w2,w3,w4,w5,za];omega
 unfold j0;rw[zuS hf];unfold yW Y1;rw[w1,w2,w3,w4,w5]
theorem znN{p:Pro}(h:ProM p):qj p=zbp p:=by
 obtain⟨_,h2,_,_,_,_,_,h8,h9,h10,h11,h12,h13,_⟩:=h;simp only[za,zuX] at h2 h8 h9 h10 h11;have w1:wr (p.cur.used-p.cur.new)=p.cur.used-p.cur.new:=ze (by omega) (by omega);have w2:wr (p.tr+p.lr)=p.tr+p.lr:=ze (by omega) (by omega);have b1:=zF p.inp.book p.rate;have b2:=zF p.inp.perm p.rate;have b3:=zF (p.cur.used-p.cur.new) p.cl.next
 have b4:=zF (p.cur.used-p.cur.new) p.rate;have b5:=zF p.cur.expired p.cl.next
 have b6:=zcZ p.rate p.rows p.now;have ha:YZ p=[⟨1,zg p.inp.book p.rate⟩,⟨2,zg p.inp.perm p.rate⟩,⟨3,jT p.rate p.rows p.now+(zg (p.cur.used-p.cur.new) p.cl.next-zg (p.cur.used-p.cur.new) p.rate)⟩,⟨4,p.tr+p.lr⟩,⟨5,p.am⟩,⟨6,zg p.cur.expired p.cl.next⟩,⟨7,p.inp.up⟩]:=by unfold YZ zgx;rw[w1,w2,Int.add_comm (_-_) (jT _ _ _)]
 unfold qj zbp;rw[ha];dsimp only;have hD: -8000000000000000≤jT p.rate p.rows p.now+(zg (p.cur.used-p.cur.new) p.cl.next-zg (p.cur.used-p.cur.new) p.rate)∧jT p.rate p.rows p.now+(zg (p.cur.used-p.cur.new) p.cl.next-zg (p.cur.used-p.cur.new) p.rate)≤8000000000000000:=by have r1:(8000000000002*(p.rows.length:Int))≤8000000000002*900:=zwG (by omega) (by omega);omega
 generalize jT p.rate p.rows p.now+(zg (p.cur.used-p.cur.new) p.cl.next-zg (p.cur.used-p.cur.new) p.rate)=D at *;have e:zjY [⟨1,zg p.inp.book p.rate⟩,⟨2,zg p.inp.perm p.rate⟩,⟨3,D⟩,⟨4,p.tr+p.lr⟩,⟨5,p.am⟩,⟨6,zg p.cur.expired p.cl.next⟩,⟨7,p.inp.up⟩]=zg p.inp.book p.rate+(zg p.inp.perm p.rate+(D+(p.tr+p.lr+(p.am+(zg p.cur.expired p.cl.next+p.inp.up))))):=by unfold zjY;rw[zgX (fun x:It=>x.n) 8000000000000000 (by omega) (by omega) _ 0 0 (by simp) (by omega) (by simp;omega)];simp
 rw[e];have e2:([⟨1,zg p.inp.book p.rate⟩,⟨2,zg p.inp.perm p.rate⟩,⟨3,D⟩,⟨4,p.tr+p.lr⟩,⟨5,p.am⟩,⟨6,zg p.cur.expired p.cl.next⟩,⟨7,p.inp.up⟩].map fun x:It=>x.n).sum=zg p.inp.book p.rate+(zg p.inp.perm p.rate+(D+(p.tr+p.lr+(p.am+(zg p.cur.expired p.cl.next+p.inp.up))))):=by simp
 rw[e2,show wr (p.total-_)=_ from ze (by omega) (by omega)]
theorem YA{l:List Li}(h:yu l=true):l.length≤20∧jD 0 l=true∧(l.map (·.n)).sum=0:=by simp[yu] at h;exact⟨h.1.1,h.1.2,h.2⟩
theorem QF:∀{l:List Li} {a:Int},jD a l=true→∀x∈l,a<x.a∧x.a≤7
 |[],a,_,x,hx=>by cases hx
 |y::l,a,h,x,hx=>by
  simp[jD] at h;rcases zu2.1 hx with rfl|hx
  ·exact h.1.1
  ·have:=QF h.2 x hx;omega
theorem za4(a:Int):ji [] a=0:=rfl
theorem YM(x:Li)(l:List Li)(a:Int):ji (x::l) a=if x.a=a then x.n+ji l a else ji l a:=by
 unfold ji;by_cases h:x.a=a
 ·simp[h]
 ·simp[h]
theorem zec(l m:List Li)(a:Int):ji (l++m) a=ji l a+ji m a:=by
 induction l with
 |nil=>simp[za4]
 |cons x l ih=>
  rw[zv7,YM,YM,ih];split<;>omega
theorem zbH:∀{l:List Li} {a:Int},(∀x∈l,x.a≠a)→ji l a=0
 |[],_,_=>rfl
 |x::l,a,h=>by rw[YM,zuU (h x (by simp)),zbH fun y hy=>h y (by simp[hy])]
theorem zai:∀{l:List Li} {a:Int},jD a l=true→∀x∈l,ji l x.a=x.n
 |[],a,_,x,hx=>by cases hx
 |y::l,a,h,x,hx=>by
  simp[jD] at h;have hg:=QF h.2;rw[YM];rcases zu2.1 hx with rfl|hx
  ·rw[zuS rfl,zbH fun z hz e=>by have:=hg z hz;omega];omega
  ·have:=hg x hx;rw[zuU (by omega)];exact zai h.2 x hx
theorem zoT(a:Int):∀(l:List Li),(∀x∈l,za x.n=true)→-(100000000000*(l.length:Int))≤ji l a∧ji l a≤100000000000*(l.length:Int):=zgK a
structure JoV(js:List Jo):Prop where
 len:js.length≤200
 seq:∀k (h:k<js.length),js[k].seq=(k:Int)+1
 chk:∀j∈js,yu j.l=true
 kd:∀j∈js,(j.kind=1∧j.of=0)∨j.kind=2
 tr:∀id,(ql (ofJ id 399 js)).all (fun x=>za x.n)=true
theorem JoV.nil:JoV []:=⟨by simp,(fun k h=>by simp at h),(fun j h=>by cases h),(fun j h=>by cases h),(fun id=>by simp[ql,ofJ,za4])⟩
theorem zqr{l:List Li}(h:yu l=true):zaD l=true:=by obtain⟨h1,h2,_⟩:=YA h;have:=qs l 0 h2;simp[zaD];exact⟨by omega,this⟩
theorem zqY{l:List Li}(h:yu l=true)(a:Int):zn9 l a=ji l a:=by unfold zn9;rw[zuS (zqr h)]
theorem zhU(j:Jo)(s:List Jo)(id:ByteArray)(upto:Int):ofJ id upto (j::s)=if j.id==id&&decide (j.p≤upto) then j.l++ofJ id upto s else ofJ id upto s:=by unfold ofJ;rw[zwH];split<;>simp
theorem zq3(s r:List Jo)(id:ByteArray)(upto:Int):ofJ id upto (s++r)=ofJ id upto s++ofJ id upto r:=by unfold ofJ;rw[zwx,zvp]
theorem zcK(id:ByteArray)(a upto:Int):∀(s:List Jo) (n:Int) (k:Nat),(∀j∈s,yu j.l=true)→k+s.length≤200→(-(2000000000000*(k:Int))≤n∧n≤2000000000000*(k:Int))→s.foldl (zll id a upto) n=n+ji (ofJ id upto s) a
 |[],n,k,_,_,_=>by simp[ofJ,za4]
 |j::s,n,k,hc,hk,hn=>by
  simp only[zvw] at hk;have hj:=hc j (by simp);rw[zwC,zhU];have hb:=zoT a j.l (qs j.l 0 (YA hj).2.1);have hl:=(YA hj).1;have e:zll id a upto n j=if j.id==id&&decide (j.p≤upto) then n+ji j.l a else n:=by
   unfold zll;split
   ·rw[zqY hj];exact ze (by omega) (by omega)
   ·rfl
  rw[e];split
  ·rw[zcK id a upto s _ (k+1) (fun q hq=>hc q (by simp[hq])) (by omega) (by omega),zec];omega
  ·exact zcK id a upto s n (k+1) (fun q hq=>hc q (by simp[hq])) (by omega) (by omega)
theorem zm5{js:List Jo}(h:JoV js)(id:ByteArray)(a upto:Int):Q1 js id a upto=ji (ofJ id upto js) a:=by unfold Q1;rw[zcK id a upto js 0 0 h.chk (by have:=h.len;omega) (by omega),zxD]
theorem zo0{js:List Jo}(h:JoV js)(id:ByteArray)(upto:Int):zgS js id upto=zgR js id upto:=by unfold zgS qn zgR ql;simp only[zm5 h]
theorem zhh:∀{js:List Jo} (n:Nat),(∀k (h:k<js.length),js[k].seq=(k:Int)+1+n)→∀of:Int,js.find? (zdz of)=if 1+(n:Int)≤of then js[(of-1-n).toNat]? else none
 |[],n,_,of=>by simp
 |j::s,n,h,of=>by
  have h0:=h 0 (by simp);simp at h0;rw[zxs];by_cases e:j.seq=of
  ·have:zdz of j=true:=by simp[zdz,e]
   rw[this];simp only;rw[zuS (by omega),show(of-1-(n:Int)).toNat=0 by omega];rfl
  ·have:zdz of j=false:=by simp[zdz,e]
   rw[this];simp only;rw[zhh (n+1) (fun k hk=>by have:=h (k+1) (by simp;omega);simp at this;omega) of];by_cases h1:1+(n:Int)≤of
   ·rw[zuS (by omega),zuS h1,show(of-1-(n:Int)).toNat=(of-1-((n+1:Nat):Int)).toNat+1 by omega];rfl
   ·rw[zuU (by omega),zuU h1]
theorem zoz{l:List Li}(h:∀x∈l,za x.n=true):yc l=yH l:=by unfold yc yH;refine zvv fun x hx=> ?_;have:=h x hx;simp[za] at this;rw[show wr (-x.n)= -x.n from ze (by omega) (by omega)]
theorem zfj:∀(a b:List Li),zd4 a b=zd5 a b
 |[],[]=>rfl
 |[],_::_=>rfl
 |_::_,[]=>rfl
 |x::a,y::b=>by have ih:=zfj a b;unfold zd4 zd5 at ih⊢;rw[QW,ih,zu6,zu6,List.cons_beq_cons];rfl
theorem zbv{l:List Li}:(ql l).all (fun x=>za x.n)=true↔∀a:Int,1≤a→a≤7→za (ji l a)=true:=by
 unfold ql;rw[zu8];constructor
 ·intro h a h1 h2;by_cases h0:ji l a=0
  ·rw[h0];rfl
  ·have e:((a-1).toNat:Int)+1=a:=by omega
   have:=h ⟨((a-1).toNat:Int)+1,ji l (((a-1).toNat:Int)+1)⟩ (zvP.2 ⟨zv2.2 ⟨(a-1).toNat,zwp.2 (by omega),rfl⟩,by rw[e];simpa using h0⟩);rw[e] at this;exact this
 ·intro h x hx;obtain⟨h1,_⟩:=zvP.1 hx;obtain⟨k,hk,rfl⟩:=zv2.1 h1;have:=zwp.1 hk;exact h _ (by omega) (by omega)
theorem zq5{js:List Jo}(h:JoV js){id:ByteArray}{l:List Li}(hc:yu l=true):Zj js id l=(ql (ofJ id 399 js++l)).all fun x=>za x.n:=by
 obtain⟨h1,h2,_⟩:=YA hc;have hm:=qs l 0 h2;have hb:=fun a=>zm5 h id a 399;have ht:=zbv.1 (h.tr id);rw[zxq,zbv];unfold Zj;rw[zu8];have w:∀x∈l,wr (Q1 js id x.a 399+x.n)=ji (ofJ id 399 js) x.a+x.n:=fun x hx=>by rw[hb];have:=QF h2 x hx;have a1:=ht x.a (by omega) (by omega);have a2:=hm x hx;simp[za] at a1 a2;exact ze (by omega) (by omega)
 constructor
 ·intro hx a b1 b2;rw[zec];by_cases he:∃x∈l,x.a=a
  ·obtain⟨x,hxl,rfl⟩:=he;rw[zai h2 x hxl,←w x hxl];exact hx x hxl
  ·rw[zbH fun x hx e=>he ⟨x,hx,e⟩,zx5];exact ht a b1 b2
 ·intro hx x hxl;rw[w x hxl];have:=QF h2 x hxl;have:=hx x.a (by omega) (by omega)
  rwa [zec,zai h2 x hxl] at this
theorem zri{js:List Jo}(h:JoV js){of:Int}(ho:1≤of):js.any (zie of)=js.any fun k=>k.of==of:=by
 rw[zxq,zwy,zwy];constructor
 ·rintro⟨j,hj,h1⟩;simp[zie] at h1;exact⟨j,hj,by simpa using h1.2⟩
 ·rintro⟨j,hj,h1⟩;simp at h1;refine⟨j,hj,?_⟩;rcases h.kd j hj with⟨_,h2⟩|h2
  ·omega
  ·simp[zie,h2,h1]
def noD(s:List Jo)(id:ByteArray)(p of:Int):Int:=match s[(of-1).toNat]? with
 |some j=>if of<1∨¬(j.id==id&&j.p==p&&j.kind==1)=true then 3 else if s.any fun k=>k.of==of then 4 else 0
 |none=>3
theorem zdX(s:List Jo)(id:ByteArray)(p kind of:Int)(l:List Li):jC s id p kind of l=if id.size=0∨¬zm p=true∨(kind≠1∧kind≠2)∨(kind=1∧of≠0) then(0,1,s)
 else if(if kind=2 then noD s id p of else 0)≠0 then(0,(if kind=2 then noD s id p of else 0),s)
 else if¬yu l=true∨(kind=2∧¬zd5 l (yH ((s[(of-1).toNat]?.map (·.l)).getD []))=true) then(0,2,s)
 else if 200≤s.length then(0,5,s)
 else if¬(ql (ofJ id 399 s++l)).all (fun x=>za x.n)=true then(0,6,s)
 else((s.length:Int)+1,0,s++[⟨(s.length:Int)+1,id,p,kind,of,l⟩]):=rfl
theorem zkS{js:List Jo}(h:JoV js)(id:ByteArray)(p kind of:Int)(l:List Li):y8 js id p kind of l=jC js id p kind of l:=by
 rw[zdX];unfold y8;by_cases c1:id.size=0∨¬zm p=true∨(kind≠1∧kind≠2)∨(kind=1∧of≠0)
 ·rw[zuS c1,zuS c1]
 rw[zuU c1,zuU c1];simp only[not_or,Decidable.not_not,zwz] at c1;obtain⟨_,cp,ck,_⟩:=c1;have tail:∀l:List Li,yu l=true→(if 200≤js.length then((0:Int),(5:Int),js) else if¬Zj js id l=true then(0,6,js) else((js.length:Int)+1,0,js++[⟨(js.length:Int)+1,id,p,kind,of,l⟩]))=if 200≤js.length then(0,5,js) else if¬(ql (ofJ id 399 js++l)).all (fun x=>za x.n)=true then(0,6,js) else((js.length:Int)+1,0,js++[⟨(js.length:Int)+1,id,p,kind,of,l⟩]):=fun l hc=>by rw[zq5 h hc]
 unfold zgh;by_cases k2:kind=2
 ·simp only[zuS k2];have hf:=zhh (js:=js) 0 (fun k hk=>by have:=h.seq k hk;omega) of;simp only[Int.natCast_zero,zx5,Int.sub_zero] at hf;have key:(Jw js id p of).2=noD js id p of∧((Jw js id p of).2=0→∃j,js[(of-1).toNat]? =some j∧(Jw js id p of).1=j):=by
   unfold Jw noD;rw[hf];by_cases ho:1≤of
   ·rw[zuS ho];cases hj:js[(of-1).toNat]? with
    |none=>exact⟨rfl,fun h=>by cases h⟩
    |some j=>
     have hm:j∈js:=zvu hj;have hk:=h.kd j hm;have e:(¬(j.id==id)=true∨j.p≠p∨j.kind=2)↔(of<1∨¬(j.id==id&&j.p==p&&j.kind==1)=true):=by
      simp only[zuR,zwh,zwz];constructor
      ·rintro(h1|h1|h1)
       ·exact .inr (.inl (.inl h1))
       ·exact .inr (.inl (.inr h1))
       ·exact .inr (.inr (by omega))
      ·rintro(h1|(h1|h1)|h1)
       ·omega
       ·exact .inl h1
       ·exact .inr (.inl h1)
       ·exact .inr (.inr (by omega))
     dsimp only;by_cases hc:¬(j.id==id)=true∨j.p≠p∨j.kind=2
     ·rw[zuS hc,zuS (e.1 hc)];exact⟨rfl,fun h=>by cases h⟩
     ·rw[zuU hc,zuU (fun h=>hc (e.2 h)),zri h ho];split
      ·exact⟨rfl,fun h=>by cases h⟩
      ·exact⟨rfl,fun _=>⟨j,rfl,rfl⟩⟩
   ·rw[zuU ho];refine⟨?_,fun h=>by cases h⟩;cases js[(of-1).toNat]? with
    |none=>rfl
    |some j=>dsimp only;rw[zuS (.inl (by omega))]
  rw[←key.1];by_cases hn:(Jw js id p of).2=0
  ·obtain⟨j,hj,he⟩:=key.2 hn;have hm:j∈js:=zvu hj;simp only[hn,ne_eq,not_true_eq_false,if_false,hj,he,zve,zwJ];by_cases hc:yu l=true
   ·rw[zfj,zoz (qs j.l 0 (YA (h.chk j hm)).2.1)];simp only[hc,not_true_eq_false,if_false,false_or,k2,true_and];by_cases hs:zd5 l (yH j.l)=true
    ·simp only[hs,not_true_eq_false,if_false];subst k2;exact tail l hc
    ·simp only[hs,not_false_eq_true,if_true];simp
   ·simp[hc]
  ·simp only[hn,ne_eq,not_false_eq_true,if_true]
 ·simp only[zuU k2,ne_eq,not_true_eq_false,if_false];by_cases hc:yu l=true
  ·simp only[hc,not_true_eq_false,if_false,false_or,k2,false_and];exact tail l hc
  ·simp[hc]
theorem zon{js:List Jo}(h:JoV js){id:ByteArray}{p kind of:Int}{l:List Li}{seq:Int}{js':List Jo}(e:jC js id p kind of l=(seq,0,js')):JoV js'∧js'=js++[⟨seq,id,p,kind,of,l⟩]∧seq=(js.length:Int)+1∧yu l=true:=by
 rw[zdX] at e;split at e
 ·simp only[zuK] at e;omega
 rename_i c1;simp only[not_or,Decidable.not_not,zwz] at c1;by_cases hn:(if kind=2 then noD js id p of else 0)≠0
 ·rw[zuS hn] at e;simp only[zuK] at e;exact absurd e.2.1 hn
 rw[zuU hn] at e;split at e
 ·simp only[zuK] at e;omega
 rename_i c2;split at e
 ·simp only[zuK] at e;omega
 rename_i c3;split at e
 ·simp only[zuK] at e;omega
 rename_i c4;simp only[zuK,true_and] at e;obtain⟨rfl,rfl⟩:=e;simp only[not_or,Decidable.not_not] at c2 c4;refine⟨⟨by simp;omega,fun k hk=> ?_,fun j hj=> ?_,fun j hj=> ?_,fun id2=> ?_⟩,rfl,rfl,c2.1⟩
 ·simp only[zuQ,zuV] at hk;by_cases hkl:k<js.length
  ·rw[zwF hkl];exact h.seq k hkl
  ·obtain rfl:k=js.length:=by omega
   simp
 ·rcases zuZ.1 hj with hj|hj
  ·exact h.chk j hj
  ·rw[zvm] at hj;subst hj;exact c2.1
 ·rcases zuZ.1 hj with hj|hj
  ·exact h.kd j hj
  ·rw[zvm] at hj;subst hj;obtain⟨_,_,k1,k2⟩:=c1;show(kind=1∧of=0)∨kind=2;omega
 ·rw[zq3,zhU];split
  ·rename_i hid;simp at hid;obtain⟨hid,_⟩:=hid;rw[z1,zuX] at hid;subst hid;simpa[ofJ] using c4
  ·have:=h.tr id2;simpa[ofJ] using this
end
end Go.Proofs.YtdmcfjkgopmlgaaGreatDoor.Ev.CA

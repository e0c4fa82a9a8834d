import Derived.Test.YtdmcfjkgopmlgaaGreatDoorP7
set_option maxRecDepth 8000
set_option maxHeartbeats 2000000
set_option linter.unusedVariables false
set_option linter.unusedSimpArgs false
set_option linter.unusedSectionVars false
namespace Go.Proofs.YtdmcfjkgopmlgaaGreatDoor.Ev.CA
open Go
section
attribute [-simp] List.length_flatMap getElem?_pos
theorem zmh{g g':XH}{A B:XO}{f:Int}{t:List Bool}(hT:JH g' (g.length+1) g.length f t)(hU:Upd (fun x=>x=g.length+1) (g++[A,B]) g'):∃w junk,(∀m,zr m junk)∧g'=g++[.own w 4 1 (t.flatMap qc++junk),.own 0 257 2 [xi f,.sl g.length w 0 t.length]]:=by
 obtain⟨w,junk,h0,h1,h2⟩:=hT;refine⟨w,junk,h0,zv5 fun j=> ?_⟩;have hl:=hU.len;simp at hl;rcases zxB j g.length with h|h|h
 ·rw[hU.same j (by omega),zq h,zq h]
 ·subst h;rw[h2];simp
 ·by_cases h3:j=g.length+1
  ·subst h3;rw[h1];simp
  ·rw[zvU (by omega),zvU (by simp;omega)]
def yP(js:List Jo)(e:Ent):Int×Ent×List Jo:=
 if(Yk e.touched).1≠0 then((Yk e.touched).1,e,js)
 else match e.cs.getLast? with
  |none=>(0,e,js)
  |some c=>
   let q:=y9 js e.id c.p.inp.p 2 c.seq (yc (j6 c.p))
   if q.2.1≠0 then(q.2.1,e,q.2.2)
   else(0,{e with s:={c.was with reg:=e.s.reg},cs:=e.cs.dropLast,touched:=(Yk e.touched).2},q.2.2)
theorem fzhU{W S:Nat→Prop}{g G J:XH}{K:List (Option Nat)}{O:XH}(hU:Upd S g G)(hd:zaz K=true)(h:KOs g.length J K O K O):FzH W g.length J K O g G G:=
 ⟨hU.len,hU.len,fun i o e=> .inl ⟨e,hU.old i o e⟩,h.at.1,zc8 hd,h.at.2⟩
theorem zlL{g:XH}{o:Eo}{e:Ent}(h:EntP g o e)(hL:EntL e){si sk:Nat}{js:List Jo}(hs:qb g si sk js)(hsl:StoL js)(hne:si≠sk)(hd:si∉o.ids∧sk∉o.ids):
 Cl C (esS o si sk) 77 [.s (.ptr o.i 0 0),.s (.ptr si 0 0)] g fun u g'=>u=fi (yP js e).1∧(∃o',o'.i=o.i∧(∀j∈o'.ids,j∈o.ids∨g.length≤j)∧EntP g' o' (yP js e).2.1)∧qb g' si sk (yP js e).2.2∧Upg (esS o si sk) g g':=by
 have hP:=h;obtain⟨nd,⟨w,wf,junk,h0,hi,hc,hf⟩,hst,hr⟩:=h;have li:=zd hi;have lc:=zd hc;have hlt:=hP.lt;have lsi:si<g.length:=by obtain⟨w,h1,_⟩:=hs;exact zd h1
 have lsk:sk<g.length:=by obtain⟨w,_,h1⟩:=hs;exact zd h1
 have nn:=nd;simp[Eo.ids] at nn;refine Cl.ip rfl (zuJ rfl) fun Ψ hΨ=> ?_;simp[hi,li];refine zb.go (ziq hst hL.st) (fun _ _ h=>h.elim) ?_;rintro u g' ⟨rfl,w1,rfl⟩;simp;refine zb.go (zmy (k:=g.length) (f:=e.first) (t:=e.touched) ⟨w1,[],fun m=>by simp[zr],by simp,by simp⟩ (by omega) hL.st) (fun x hx ee=> .inl (by omega)) ?_;rintro u g' ⟨rfl,hT,hU⟩;obtain⟨w2,j2,h2,rfl⟩:=zmh hT hU;clear hT hU;simp;refine zc (fun c1=> ?_) (fun c1=> ?_)
 ·simp at c1;simp;exact Gh.pure .i (hΨ _ _ (by unfold yP;rw[zuT c1];exact⟨rfl,⟨o,rfl,fun j hj=> .inl hj,hP⟩,hs,⟨zuQ _,fun _ _ _=>rfl⟩⟩))
 simp at c1;have hcl:=hL.cl;have hlo:=hL.st.lo;have hhi:=hL.st.hi;have hn1:e.touched.length≠1:=by intro ee;simp[Yk,ee] at c1
 have c2:e.cs.length-1<e.cs.length:=by omega
 have hlast:e.cs.getLast? =some e.cs[e.cs.length-1]:=by rw[zxk,zuY c2]
 have hw:IntKind.i64.wrap ((e.cs.length:Int)-1)=((e.cs.length-1:Nat):Int):=by rw[ze (by omega) (by omega)];omega
 obtain⟨x1,x2⟩:=zng (junk:=junk) c2;obtain⟨hc1,hc2,hc3,hc4,hc5⟩:=hL.cs _ (zvi c2);generalize e.cs[e.cs.length-1]=c at *;obtain⟨X,hX⟩:∃X,X=e.cs.flatMap yf++junk:=⟨_,rfl⟩
 rw[←hX] at hc x1 x2;obtain⟨q,hq⟩:∃q,q=e.cs.length-1:=⟨_,rfl⟩
 rw[←hq] at hw x1 x2 c2;simp[hi,li,hc,lc,hw,c2,x2,yf,zC,pC,zP,zi,zD,show q*50+50≤X.length by omega,show¬X=[] from fun e=>by rw[e] at x1;simp at x1];refine zb.go0 (zaY c.p) ?_;have hlen:(j6 c.p).length≤7:=by
  unfold j6;split
  ·exact zdM _
  ·simp
 simp;refine zb.go0 (J3 (RdX.lst _ (j6 c.p)) (by omega)) ?_;have hlr:(yc (j6 c.p)).length≤1000:=by
  have:(yc (j6 c.p)).length=(j6 c.p).length:=by simp[yc]
  omega
 generalize hrv:yc (j6 c.p)=ls at *;simp[hi,li];refine zb.go (zit hs.app hne hsl e.id c.p.inp.p 2 c.seq rfl hlr) (fun z hz ee=> .inr (.inr ee)) ?_;rintro u G0 ⟨rfl,hG,hS0⟩;obtain⟨G,rfl,hS⟩:=hS0.cut (fun j hj=>hj.elim (fun e=>e▸lsi) (fun e=>e▸lsk));have hGl:G.length=g.length:=hS.len;have hGj:∀j,j≠si→j≠sk→G[j]? =g[j]? :=fun j h2 h3=>hS.same j (by simp[h2,h3]);have hGe:∀j∈o.ids,G[j]? =g[j]? :=fun j hj=>hGj j (fun ee=>hd.1 (ee▸hj)) (fun ee=>hd.2 (ee▸hj));have hPG:EntP G o e:=hP.same hGe;have hGs:qb G si sk (y9 js e.id c.p.inp.p 2 c.seq ls).2.2:=hG.sam (zq (by omega)).symm (zq (by omega)).symm;have hSU:Upd (esS o si sk) g G:=⟨hS.len,fun j hj=>hS.same j fun ee=>hj (.inr ee),fun j x hx=>by
  by_cases hj:j=si∨j=sk
  ·exact .inr (hGs.old lsk j hj x hx)
  ·rw[hS.same j hj] at hx;exact .inl hx⟩
 have li':o.i<G.length:=by omega
 have hi':G[o.i]? =_:=(hGe o.i (by simp[Eo.ids])).trans hi;have hc':G[o.c]? =_:=(hGe o.c (by simp[Eo.ids])).trans hc;have lc':=zd hc'
 have he:yP js e=if(y9 js e.id c.p.inp.p 2 c.seq ls).2.1≠0 then((y9 js e.id c.p.inp.p 2 c.seq ls).2.1,e,(y9 js e.id c.p.inp.p 2 c.seq ls).2.2)
  else(0,{e with s:={c.was with reg:=e.s.reg},cs:=e.cs.dropLast,touched:=(Yk e.touched).2},(y9 js e.id c.p.inp.p 2 c.seq ls).2.2):=by
  unfold yP;rw[zuV (by simp[c1]),hlast];simp only[hrv]
 rw[←hGl];generalize y9 js e.id c.p.inp.p 2 c.seq ls=v at *;obtain⟨seq,pe,js'⟩:=v;simp;refine zc (fun c3=> ?_) (fun c3=> ?_)
 ·simp at c3;simp;rw[zuT (by simpa using c3)] at he;refine qX hSU (by simp) (hΨ _ _ (by rw[he];exact⟨rfl,⟨o,rfl,fun j hj=> .inl hj,hPG⟩,hGs,⟨by omega,fun j _ hj=>hSU.same j hj⟩⟩))
 simp at c3;rw[zuV (by simpa using c3)] at he;have hci:¬o.c=o.i:=by omega
 have hXn:¬X=[]:=fun e=>by rw[e] at x1;simp at x1
 clear hG hS0;have hCl:=fun G:XH=>zdw (g:=G) c.was (RdX.lst G c.was.filed) hc4 (by have:=hc3.len;omega);refine zi1 18 [(10,6),(14,6),(17,6)] [0] 17 1 7 [] [(0,3),(0,6)] [66,72] (fun x=>x=o.i) (by decide) (by decide) (by decide) (by decide) (by decide) (by decide) (by decide) ?_ ?_<;>simp only[zu8,zvE,zvj,zve]
 ·simp;refine zb.go (hCl _) (fun _ _ h=>h.elim) ?_;rintro u g' ⟨w3,rfl,rfl⟩;simp[hi',li',hc',lc',hw,c2,hXn,show q≤e.cs.length by omega]
 ·simp;refine zb.go (hCl _) (fun _ _ h=>h.elim) ?_;rintro u g' ⟨w3,rfl,rfl⟩;simp[hi',li',hc',lc',hw,c2,hXn,hci,show q≤e.cs.length by omega];refine⟨.inr (.inl (by simp[Eo.ids])),?_⟩;rw[hGl];have lx:∀n:Int,lvV g.length (xi n):=fun n=>by simp
  have lr:o.r<g.length:=hlt o.r (by simp[Eo.ids]);have lt2:∀m,zr m ((Yk e.touched).2.flatMap qc++j2):=fun m=>by simp[h2]
  obtain⟨ys,hys⟩:=zxl.1 hlast;have hdl:e.cs.dropLast=ys:=by rw[hys,zxi]
  have hyl:ys.length=q:=by rw[hq,hys];simp
  subst hyl;have hX2:X=ys.flatMap yf++(yf c++junk):=by rw[hX,hys];simp
  let X2:XO:= .own 0 108 14 [xs e.id,xs e.j,.ptr (g.length+1) 0 0,xi c.was.book,xi c.was.perm,xi c.was.judge,xi c.was.cap,xi c.was.life,xi c.was.up,.sl (g.length+2) w3 0 c.was.filed.length,lpV c.was.l,.ptr o.r 0 0,.sl o.c w 0 ys.length,xi e.first];refine Gh.keep (g2:=G.set o.i X2) [some 0,some 1,some 3] [.own w2 4 1 ((Yk e.touched).2.flatMap qc++j2),.own 0 257 2 [xi e.first,.sl g.length w2 0 (Yk e.touched).2.length],.own w3 3 1 (c.was.filed.flatMap zR)] (FzH.put (fzhU hSU rfl ?_) o.i 0 108 14 (.inl (by simp[Eo.ids])) ?_) (.s (.lt (lx _))) (hΨ _ _ ?_)
  ·exact⟨⟨_,_,_,_,_,rfl,rfl,.lts (lt2 _)⟩,⟨_,_,_,_,_,rfl,rfl,.cons (.lt (lx _)) (.cons (.ksl (j:=0) (k:=0) rfl) .nil)⟩,⟨_,_,_,_,_,rfl,rfl,.lts (by simp)⟩,trivial⟩
  ·exact .cons (.lt (by simp)) (.cons (.lt (by simp)) (.cons (.kptr (j:=1) (k:=1) rfl) (.cons (.lt (lx _)) (.cons (.lt (lx _)) (.cons (.lt (lx _)) (.cons (.lt (lx _)) (.cons (.lt (lx _)) (.cons (.lt (lx _)) (.cons (.ksl (j:=2) (k:=3) rfl) (.cons (.lt (by simp)) (.cons (.lt (by simp[lr])) (.cons (.lt (by simp[lc])) (.cons (.lt (lx _)) .nil)))))))))))))
  ·have ls2:(G.set o.i X2).length=g.length:=by rw[zvw,hGl]
   have hnew:∀(k:Nat) (O:XH),(G.set o.i X2++O)[g.length+k]? =O[k]? :=fun k O=>by rw[zuP (by omega),ls2];congr 1;omega
   have hnew0:∀(O:XH),(G.set o.i X2++O)[g.length]? =O[0]? :=fun O=>hnew 0 O;have hold:∀(j:Nat) (O:XH),j<g.length→j≠o.i→(G.set o.i X2++O)[j]? =G[j]? :=fun j O h1 h3=>by rw[zuO (by omega),zuU (fun e=>h3 e.symm)]
   have nsi:o.i≠si:=fun ee=>hd.1 (ee▸(by simp[Eo.ids]));have nsk:o.i≠sk:=fun ee=>hd.2 (ee▸(by simp[Eo.ids]));have hRg:G[o.r]? =_:=hPG.r;rw[he];refine⟨rfl,⟨⟨o.i,g.length+1,g.length,o.r,o.c,g.length+2⟩,rfl,?_,⟨?_,⟨w,w3,yf c++junk,fun m=>by simp[h0],?_,?_,?_⟩,⟨w2,j2,h2,?_,?_⟩,?_⟩⟩,?_,⟨by simp;omega,fun j h1 h3=> ?_⟩⟩
   ·intro j hj;simp[Eo.ids] at hj⊢;omega
   ·simp[Eo.ids];omega
   ·show(G.set o.i X2++_)[o.i]? =_;rw[zuO (by omega),zu2 li'];simp only[hdl];rfl
   ·show(G.set o.i X2++_)[o.c]? =_;rw[hold _ _ lc (by omega),hc'];simp only[hdl,hX2]
   ·show(G.set o.i X2++_)[g.length+2]? =_;rw[hnew];rfl
   ·show(G.set o.i X2++_)[g.length+1]? =_;rw[hnew];rfl
   ·show(G.set o.i X2++_)[g.length]? =_;rw[hnew0];rfl
   ·show(G.set o.i X2++_)[o.r]? =_;rw[hold _ _ lr (by omega),hRg]
   ·exact(hGs.sam (hold si _ lsi nsi.symm) (hold sk _ lsk nsk.symm))
   ·rw[hold _ _ h1 (fun ee=>h3 (.inl (by rw[ee];simp[Eo.ids]))),hSU.same j h3]
structure Gi where
 i:Nat
 l:Nat
 t:Nat
 tk:Nat
 s:Nat
 sk:Nat
 c:Nat
def Gi.ids(o:Gi):List Nat:=[o.i,o.l,o.t,o.tk,o.s,o.sk,o.c]
structure Gm where
 t:List Rw
 js:List Jo
 ms:List (Eo×Ent)
 c:List Pa
def jq(x:Eo×Ent):List XV:=[xs x.2.id,xs x.2.j,xi x.2.fx,xi x.2.first,.ptr x.1.i 0 0]
theorem jB(x:Eo×Ent):(jq x).length=5:=rfl
def Gm.ids(m:Gm):List Nat:=m.ms.flatMap fun x=>x.1.ids
structure GrpP(g:XH)(o:Gi)(m:Gm):Prop where
 nd:(o.ids++m.ids).Nodup
 i:∃w,g[o.i]? =some (.own 0 66 4 [.sl o.l w 0 m.ms.length,.ptr o.t 0 0,.ptr o.s 0 0,.ptr o.c 0 0])∧g[o.l]? =some (.own w 69 5 (m.ms.flatMap jq))
 t:qO 145 140 g o.t o.tk m.t
 s:qb g o.s o.sk m.js
 c:QM g o.c m.c
 e:∀x∈m.ms,EntP g x.1 x.2
structure GrpL(m:Gm):Prop where
 t:m.t.length≤24
 s:StoL m.js
 n:m.ms.length≤4
 c:m.c.length≤100
 cu:m.c.Pairwise unP
 e:∀x∈m.ms,EntL x.2
theorem zkq{g:XH}{x:Eo×Ent}(h:EntP g x.1 x.2){n:Nat}(hn:g.length≤n):zr n (jq x):=by have:=h.lt x.1.i (by simp[Eo.ids]);simp[jq];omega
theorem GrpP.lt{g:XH}{o:Gi}{m:Gm}(h:GrpP g o m):∀i∈o.ids++m.ids,i<g.length:=by
 obtain⟨nd,⟨w,h1,h2⟩,⟨w1,h3,h4⟩,⟨w2,h5,h6⟩,h7,h8⟩:=h;have h7:g[o.c]? =_:=h7;intro i hi;rw[zuX] at hi;rcases hi with hi|hi
 ·simp[Gi.ids] at hi;rcases hi with rfl|rfl|rfl|rfl|rfl|rfl|rfl
  ·exact zd h1
  ·exact zd h2
  ·exact zd h3
  ·exact zd h4
  ·exact zd h5
  ·exact zd h6
  ·exact zd h7
 ·unfold Gm.ids at hi;rw[zvr] at hi;obtain⟨x,hx,hi⟩:=hi;exact(h8 x hx).lt i hi
theorem GrpP.same{g G:XH}{o:Gi}{m:Gm}(h:GrpP g o m)(hs:∀i∈o.ids++m.ids,G[i]? =g[i]?):GrpP G o m:=by
 obtain⟨nd,⟨w,h1,h2⟩,⟨w1,h3,h4⟩,⟨w2,h5,h6⟩,h7,h8⟩:=h;have q:∀i,i∈o.ids→G[i]? =g[i]? :=fun i hi=>hs i (zvk _ hi);have h7:g[o.c]? =_:=h7;refine⟨nd,⟨w,?_,?_⟩,⟨w1,?_,?_⟩,⟨w2,?_,?_⟩,?_,fun x hx=>(h8 x hx).same fun i hi=>hs i (zvx _ (zvr.2 ⟨x,hx,hi⟩))⟩
 ·rw[q _ (by simp[Gi.ids])];exact h1
 ·rw[q _ (by simp[Gi.ids])];exact h2
 ·rw[q _ (by simp[Gi.ids])];exact h3
 ·rw[q _ (by simp[Gi.ids])];exact h4
 ·rw[q _ (by simp[Gi.ids])];exact h5
 ·rw[q _ (by simp[Gi.ids])];exact h6
 ·unfold QM;rw[q _ (by simp[Gi.ids])];exact h7
theorem GrpP.app{g J:XH}{o:Gi}{m:Gm}(h:GrpP g o m):GrpP (g++J) o m:=h.same fun i hi=>zq (h.lt i hi)
theorem znJ(g:XH):Cl C (fun _=>False) 13 [] g fun u g'=>∃o J,(∀i∈o.ids,g.length≤i)∧u= .s (.ptr o.i 0 0)∧g'=g++J∧GrpP g' o ⟨[],[],[],[]⟩:=by
 refine Cl.ip rfl (zuJ rfl) fun Ψ hΨ=> ?_;simp;refine zb.go (zui _) (fun _ _ h=>h.elim) ?_;rintro u g' ⟨rfl,rfl⟩;simp;refine zb.go (zuf _) (fun _ _ h=>h.elim) ?_;rintro u g' ⟨rfl,rfl⟩;simp;refine zb.go (zs3 _) (fun _ _ h=>h.elim) ?_;rintro u g' ⟨rfl,rfl⟩;simp;refine Gh.keep [some 0,some 1,some 2,some 3,some 4,some 5,none] [.own 0 145 1 [.sl (g.length+1) 0 0 0],.own 0 140 4 [],.own 0 175 1 [.sl (g.length+3) 0 0 0],.own 0 184 6 [],.own 0 177 1 [zbw []],.own 0 66 4 [.sl (g.length+6) 0 0 0,.ptr g.length 0 0,.ptr (g.length+2) 0 0,.ptr (g.length+4) 0 0],.own 0 69 5 []] (zlV rfl ?_) (.s (.kptr (j:=5) (k:=5) rfl)) (hΨ _ _ ?_)
 ·exact⟨⟨_,_,_,_,_,rfl,rfl,.cons (.ksl (j:=1) (k:=1) rfl) .nil⟩,⟨_,_,_,_,_,rfl,rfl,.nil⟩,⟨_,_,_,_,_,rfl,rfl,.cons (.ksl (j:=3) (k:=3) rfl) .nil⟩,⟨_,_,_,_,_,rfl,rfl,.nil⟩,⟨_,_,_,_,_,rfl,rfl,.lts (by simp)⟩,⟨_,_,_,_,_,rfl,rfl,.cons (.gh (j:=6) rfl rfl) (.cons (.kptr (j:=0) (k:=0) rfl) (.cons (.kptr (j:=2) (k:=2) rfl) (.cons (.kptr (j:=4) (k:=4) rfl) .nil)))⟩,⟨_,_,rfl⟩,trivial⟩
 ·refine⟨⟨g.length+5,g.length+6,g.length,g.length+1,g.length+2,g.length+3,g.length+4⟩,_,?_,rfl,rfl,?_,⟨0,by simp,by simp⟩,⟨0,by simp,by simp⟩,⟨0,by simp,by simp⟩,by simp[QM],fun x hx=>by simp at hx⟩
  ·simp[Gi.ids]
  ·simp[Gi.ids,Gm.ids]
def zcl(id:ByteArray)(x:Eo×Ent):Bool:=x.2.id==id
def z6(m:Gm)(id:ByteArray):Option (Eo×Ent):=m.ms.find? (zcl id)
theorem keyMP(x:Eo×Ent)(id:ByteArray){g:XH}{a:Nat}(ha:g[a]? =some (.own 0 9 1 [xs id])):Cl C (fun _=>False) 69 [.agg (jq x),.s (.ptr a 0 0)] g fun u g'=>u=fb (zcl id x)∧g'=g:=by have la:=zd ha;refine Cl.ip rfl (zuJ rfl) fun Ψ hΨ=> ?_;simp[jq,ha,la,y0];exact Gh.pure (.s (.lt (by simp))) (hΨ _ _ ⟨by simp[zcl,z2],rfl⟩)
def JX(q:Option (Eo×Ent)):XF:=match q with
 |some x=> .tup [.agg (jq x),fb true]
 |none=> .tup [.agg [xs ⟨#[]⟩,xs ⟨#[]⟩,xi 0,xi 0,.v .nilp],fb false]
theorem QC{g:XH}{o:Gi}{m:Gm}(h:GrpP g o m)(hL:GrpL m)(id:ByteArray):Cl C (fun _=>False) 28 [.s (.ptr o.i 0 0),fs id] g fun u g'=>u=JX (z6 m id)∧g'=g:=by
 obtain⟨nd,⟨w,hi,hl⟩,_,_,_,he⟩:=h;have li:=zd hi;have ll:=zd hl;have hn:=hL.n;refine Cl.ip rfl (zuJ rfl) fun Ψ hΨ=> ?_;simp[hi,li];refine zb.go0 (Ys (q:=zcl id) (f:=68) rfl jB (by decide) (RdX.sl jB hl).app (by omega) (.inr ⟨g.length+2,69,[],[.s (.ptr g.length 0 0)],rfl,by simp,fun x _=>keyMP x id (by simp)⟩)) ?_;rcases Y6 (zcl id) m.ms 0 with⟨f1,f2⟩|⟨q,f1,hq,f2⟩
 ·simp[f1];exact Gh.pure (u':=JX none) (.t2 (.agg (.lts (by simp))) (.s (.lt (by simp)))) (hΨ _ _ ⟨by unfold z6;rw[f2],rfl⟩)
 ·rw[zvv] at f1;obtain⟨p1,cs1,o1,b1,b2,b3,b4,b5,b6⟩:=(RdX.sl jB hl).atJ jB (by decide) hq;have hx:=zkq (he _ (zvi hq)) (zuQ _);have hf:z6 m id=some m.ms[q]:=f2;generalize m.ms[q]=x at *;simp[f1,show¬(q:Int)<0 by omega];simp[hi,li,hq,b1,b2,b3,b4,b5,jq];exact Gh.pure (u':=JX (some x)) (.t2 (.agg (.lts hx)) (.s (.lt (by simp)))) (hΨ _ _ ⟨by rw[hf],rfl⟩)
abbrev y5(m:Cmd):List XV:=[xi m.k,xs m.id,xs m.id2,xs m.j,xi m.c,xi m.d,xi m.y,xi m.z,xi m.p,xi m.n,xi m.r,xi m.x]
theorem Sam.upg{S:Nat→Prop}{g J g':XH}(h:Sam S (g++J) g'):Upg S g g':=⟨by rw[h.len];simp,fun j hj hn=>by rw[h.same j hn,zq hj]⟩
theorem Upg.cut{S:Nat→Prop}{g J g':XH}(h:Upg S (g++J) g'):Upg S g g':=⟨zvB (by simp) h.le,fun j hj hn=>by rw[h.same j (by simp;omega) hn,zq hj]⟩
theorem Upg.junk{S:Nat→Prop}{g J:XH}:Upg S g (g++J):=⟨by simp,fun j hj _=>zq hj⟩
theorem Upg.mono{S T:Nat→Prop}{g g':XH}(h:Upg S g g')(hs:∀j,S j→T j):Upg T g g':=⟨h.le,fun j hj hn=>h.same j hj fun k=>hn (hs j k)⟩
noncomputable def yk(t:List Rw)(js:List Jo)(e:Ent)(c:Cmd):Int×Ent×List Jo:=
 if c.k=3 then((zz e (YC e.s c.n)).1,(zz e (YC e.s c.n)).2,js)
 else if c.k=4 then((zz e (QV e.s c.n)).1,(zz e (QV e.s c.n)).2,js)
 else if c.k=5 then((zz e (zhO e.s c.c c.y c.n)).1,(zz e (zhO e.s c.c c.y c.n)).2,js)
 else if c.k=6 then((zz e (zid e.s c.c c.y c.d c.z c.n)).1,(zz e (zid e.s c.c c.y c.d c.z c.n)).2,js)
 else if c.k=7 then((zz e (zbu e.s c.r)).1,(zz e (zbu e.s c.r)).2,js)
 else if c.k=8 then((zz e (zbg e.s c.r c.y)).1,(zz e (zbg e.s c.r c.y)).2,js)
 else if c.k=9 then((zz e (jC e c.p c.n)).1,(zz e (jC e c.p c.n)).2,js)
 else if c.k=11 then yr t js e
 else yP js e
theorem GrpP.apart{g:XH}{o:Gi}{m:Gm}(h:GrpP g o m){x:Eo×Ent}(hx:x∈m.ms):o.s∉x.1.ids∧o.sk∉x.1.ids:=by have hnd:=h.nd;rw[zvH] at hnd;have hm:∀j∈x.1.ids,j∈m.ids:=fun j hj=>zvr.2 ⟨x,hx,hj⟩;exact⟨fun h1=>hnd.2.2 o.s (by simp[Gi.ids]) o.s (hm _ h1) rfl,fun h1=>hnd.2.2 o.sk (by simp[Gi.ids]) o.sk (hm _ h1) rfl⟩
theorem GrpP.sne{g:XH}{o:Gi}{m:Gm}(h:GrpP g o m):o.s≠o.sk:=by have hnd:=h.nd;rw[zvH] at hnd;have:=hnd.1;simp[Gi.ids] at this;omega
theorem zqC{g:XH}{o:Gi}{m:Gm}(h:GrpP g o m)(hL:GrpL m){x:Eo×Ent}(hx:x∈m.ms)(c:Cmd)(hp:c.p≤9223372036854775807):Cl C (esS x.1 o.s o.sk) 29 [.s (.ptr o.i 0 0),.s (.ptr x.1.i 0 0),.agg (y5 c)] g fun u g'=>u=fi (yk m.t m.js x.2 c).1∧(∃o',o'.i=x.1.i∧(∀j∈o'.ids,j∈x.1.ids∨g.length≤j)∧EntP g' o' (yk m.t m.js x.2 c).2.1)∧qb g' o.s o.sk (yk m.t m.js x.2 c).2.2∧Upg (esS x.1 o.s o.sk) g g':=by
 have hE:=h.e x hx;have hEL:=hL.e x hx;have hd:=h.apart hx;have hne:=h.sne;have hs:=h.s;have ht:=h.t;have htl:=hL.t;have hsl:=hL.s;have lsi:o.s<g.length:=h.lt _ (by simp[Gi.ids]);have lsk:o.sk<g.length:=h.lt _ (by simp[Gi.ids]);obtain⟨nd,⟨w,hi,hl⟩,_,_,_,_⟩:=h;have li:=zd hi;obtain⟨q,e⟩:=x;refine Cl.ip rfl (zuJ rfl) fun Ψ hΨ=> ?_;have fin:∀(J g':XH) (d:Int×Sta),yk m.t m.js e c=((zz e d).1,(zz e d).2,m.js)→EntP g' q (zz e d).2→Sam (fun x=>x∈q.ids) (g++J) g'→Gh (esS q o.s o.sk) g Ψ (fi (zz e d).1) g':=fun J g' d h1 h2 h3=>
  Gh.here (hΨ _ _ (by
   rw[h1];exact⟨rfl,⟨q,rfl,fun j hj=> .inl hj,h2⟩,hs.app.sam (h3.same _ hd.1) (h3.same _ hd.2),(h3.mono fun j hj=> .inl hj).upg⟩))
 simp;refine zc (fun c3=> ?_) (fun c3=> ?_)
 ·simp at c3;simp;refine zb.go (zkr hE.app hEL.st c.n) (fun z hz ee=> .inr (.inl ee)) ?_;rintro u g' ⟨rfl,h2,h3⟩;simp;exact fin _ _ _ (by simp[yk,c3]) h2 h3
 simp at c3;refine zc (fun c4=> ?_) (fun c4=> ?_)
 ·simp at c4;simp;refine zb.go (zqq hE.app hEL.st c.n) (fun z hz ee=> .inr (.inl ee)) ?_;rintro u g' ⟨rfl,h2,h3⟩;simp;exact fin _ _ _ (by simp[yk,c3,c4]) h2 h3
 simp at c4;refine zc (fun c5=> ?_) (fun c5=> ?_)
 ·simp at c5;simp;refine zb.go (zqp hE.app hEL.st hEL.reg c.c c.y c.n) (fun z hz ee=> .inr (.inl ee)) ?_;rintro u g' ⟨rfl,h2,h3⟩;simp;exact fin _ _ _ (by simp[yk,c3,c4,c5]) h2 h3
 simp at c5;refine zc (fun c6=> ?_) (fun c6=> ?_)
 ·simp at c6;simp;refine zb.go (zi7 hE.app hEL.st hEL.reg c.c c.y c.d c.z c.n) (fun z hz ee=> .inr (.inl ee)) ?_;rintro u g' ⟨rfl,h2,h3⟩;simp;exact fin _ _ _ (by simp[yk,c3,c4,c5,c6]) h2 h3
 simp at c6;refine zc (fun c7=> ?_) (fun c7=> ?_)
 ·simp at c7;simp;refine zb.go (znz hE.app hEL.st c.r) (fun z hz ee=> .inr (.inl ee)) ?_;rintro u g' ⟨rfl,h2,h3⟩;simp;exact fin _ _ _ (by simp[yk,c3,c4,c5,c6,c7]) h2 h3
 simp at c7;refine zc (fun c8=> ?_) (fun c8=> ?_)
 ·simp at c8;simp;refine zb.go (zqn hE.app hEL.st c.r c.y) (fun z hz ee=> .inr (.inl ee)) ?_;rintro u g' ⟨rfl,h2,h3⟩;simp;exact fin _ _ _ (by simp[yk,c3,c4,c5,c6,c7,c8]) h2 h3
 simp at c8;refine zc (fun c9=> ?_) (fun c9=> ?_)
 ·simp at c9;simp[hi,li];refine zb.go (zqo hE.app hEL (.ptr o.t 0 0) c.p c.n hp) (fun z hz ee=> .inr (.inl ee)) ?_;rintro u g' ⟨rfl,h2,h3⟩;simp;exact fin _ _ _ (by simp[yk,c3,c4,c5,c6,c7,c8,c9]) h2 h3
 simp at c9;refine zc (fun c11=> ?_) (fun c11=> ?_)
 ·simp at c11;simp[hi,li];refine zb.go (znx hE.app hEL ht.app (by omega) hs.app hsl hne hd) (fun z hz ee=> .inr ee) ?_;rintro u g' ⟨rfl,h2,h3,h4⟩;simp;exact Gh.here (hΨ _ _ (by rw[show yk m.t m.js e c=yr m.t m.js e by simp[yk,c3,c4,c5,c6,c7,c8,c9,c11]];exact⟨rfl,⟨q,rfl,fun j hj=> .inl hj,h2⟩,h3,h4.upg⟩))
 simp at c11;simp[hi,li];refine zb.go (zlL hE.app hEL hs.app hsl hne hd) (fun z hz ee=> .inr ee) ?_;rintro u g' ⟨rfl,⟨o',h1,h2,h3⟩,h4,h5⟩;simp;exact Gh.here (hΨ _ _ (by rw[show yk m.t m.js e c=yP m.js e by simp[yk,c3,c4,c5,c6,c7,c8,c9,c11]];exact⟨rfl,⟨o',h1,fun j hj=>(h2 j hj).elim .inl fun h=> .inr (zvB (by simp) h),h3⟩,h4,h5.cut⟩))
def zjr(q:Option (Eo×Ent)):List XV:=match q with
 |some x=>jq x
 |none=>[xs ⟨#[]⟩,xs ⟨#[]⟩,xi 0,xi 0,.v .nilp]
theorem zaR(q:Option (Eo×Ent)):(zjr q).length=5:=by cases q<;>rfl
theorem Ye(q:Option (Eo×Ent)):JX q= .tup [.agg (zjr q),fb q.isSome]:=by cases q<;>rfl
def grS(o:Gi)(m:Gm):Nat→Prop:=fun x=>x∈o.ids++m.ids
structure GrpS(g:XH)(o:Gi)(m:Gm)(g':XH)(m':Gm):Prop where
 p:GrpP g' o m'
 u:Upg (grS o m) g g'
 n:∀j∈m'.ids,j∈m.ids∨g.length≤j
theorem GrpS.here{g J:XH}{o:Gi}{m:Gm}(h:GrpP g o m):GrpS g o m (g++J) m:=⟨h.app,Upg.junk,fun j hj=> .inl hj⟩
def ZN(m:Gm)(c:Cmd):Int×Option Ent:=
 if(z6 m c.id).isSome then(4,none)
 else if 4≤m.ms.length then(5,none)
 else if c.x<1∨10000000<c.x then(1,none)
 else if Zl c.id c.j c.r c.y c.p then(0,some (ja c.id c.j c.x c.r c.y c.p)) else(1,none)
theorem GrpP.more{g:XH}{o:Gi}{m:Gm}(h:GrpP g o m){H:XH}{w:Nat}{o':Eo}{e':Ent}(hn:∀j∈o'.ids,g.length≤j)(hE:EntP H o' e')(h1:H[o.i]? =some (.own 0 66 4 [.sl o.l w 0 (m.ms.length+1),.ptr o.t 0 0,.ptr o.s 0 0,.ptr o.c 0 0]))(h2:H[o.l]? =some (.own w 69 5 (m.ms.flatMap jq++jq (o',e'))))(h3:∀j,j<g.length→j≠o.i→j≠o.l→H[j]? =g[j]?):GrpP H o {m with ms:=m.ms++[(o',e')]}:=by
 have hlt:=h.lt;obtain⟨nd,_,⟨w1,k3,k4⟩,⟨w2,k5,k6⟩,k7,k8⟩:=h;have k7:g[o.c]? =_:=k7;have hnd:=nd;rw[zvH] at hnd;obtain⟨n1,n2,n3⟩:=hnd;have n1':=n1;simp[Gi.ids] at n1';obtain⟨⟨a1,a2,a3,a4,a5,a6⟩,⟨b2,b3,b4,b5,b6⟩,_⟩:=n1';have q:∀i∈o.ids,i≠o.i→i≠o.l→H[i]? =g[i]? :=fun i hi a b=>h3 i (hlt i (zvk _ hi)) a b;refine⟨?_,⟨w,by simpa using h1,by simpa using h2⟩,⟨w1,?_,?_⟩,⟨w2,?_,?_⟩,?_,?_⟩
 ·simp only[Gm.ids,zvq,zvS,zwR,zvl];rw[←zu9,zvH];exact⟨nd,hE.nd,fun a ha b hb e=>by have:=hlt a ha;have:=hn b hb;omega⟩
 ·rw[q o.t (by simp[Gi.ids]) (fun e=>a2 e.symm) (fun e=>b2 e.symm)];exact k3
 ·rw[q o.tk (by simp[Gi.ids]) (fun e=>a3 e.symm) (fun e=>b3 e.symm)];exact k4
 ·rw[q o.s (by simp[Gi.ids]) (fun e=>a4 e.symm) (fun e=>b4 e.symm)];exact k5
 ·rw[q o.sk (by simp[Gi.ids]) (fun e=>a5 e.symm) (fun e=>b5 e.symm)];exact k6
 ·unfold QM;rw[q o.c (by simp[Gi.ids]) (fun e=>a6 e.symm) (fun e=>b6 e.symm)];exact k7
 ·intro x hx;rw[zuX,zvm] at hx;rcases hx with hx|rfl
  ·refine(k8 x hx).same fun j hj=>h3 j ((k8 x hx).lt j hj) ?_ ?_
   ·exact fun e=>n3 o.i (by simp[Gi.ids]) j (zvr.2 ⟨x,hx,hj⟩) e.symm
   ·exact fun e=>n3 o.l (by simp[Gi.ids]) j (zvr.2 ⟨x,hx,hj⟩) e.symm
  ·exact hE
theorem zqA{g:XH}{o:Gi}{m:Gm}(h:GrpP g o m)(hL:GrpL m)(c:Cmd):Cl C (grS o m) 26 [.s (.ptr o.i 0 0),.agg (y5 c)] g fun u g'=>u=fi (ZN m c).1∧∃m',GrpS g o m g' m'∧match(ZN m c).2 with
 |some e=>∃o',m'={m with ms:=m.ms++[(o',e)]}
 |none=>m'=m:=by
 have hP:=h;have hlt:=h.lt;have hn:=hL.n;obtain⟨nd,⟨w,hi,hl⟩,_,_,_,_⟩:=h;have li:=zd hi;have ll:=zd hl;have hne:¬o.i=o.l:=by rw[zvH] at nd;have:=nd.1;simp[Gi.ids] at this;exact this.1.1
 have hne':¬o.l=o.i:=fun e=>hne e.symm;refine Cl.ip rfl (zuJ rfl) fun Ψ hΨ=> ?_;have bad:∀(J:XH) (e:Int),ZN m c=(e,none)→Gh (grS o m) g Ψ (fi e) (g++J):=fun J e h=>Gh.here (hΨ _ _ (by rw[h];exact⟨rfl,m,GrpS.here hP,rfl⟩));simp;refine zb.go0 (QC hP.app hL c.id) ?_;rw[Ye];have hml:=zaR (z6 m c.id);generalize zjr (z6 m c.id)=F at *;simp[hml];refine zc (fun c1=> ?_) (fun c1=> ?_)
 ·simp;exact bad _ 4 (by simp[ZN,c1])
 simp[hi,li];refine zc (fun c2=> ?_) (fun c2=> ?_)
 ·simp at c2;simp;exact bad _ 5 (by simp[ZN,c1,show 4≤m.ms.length by omega])
 simp at c2;have e1:ZN m c=if c.x<1∨10000000<c.x then(1,none) else if Zl c.id c.j c.r c.y c.p then(0,some (ja c.id c.j c.x c.r c.y c.p)) else(1,none):=by unfold ZN;rw[zuV (by simp[c1]),zuV (by omega)]
 simp;refine zc (fun c3=> ?_) (fun c3=> ?_)
 ·simp at c3;simp;exact bad _ 1 (by rw[e1,zuT (.inl c3)])
 simp at c3;simp;refine zc (fun c4=> ?_) (fun c4=> ?_)
 ·simp at c4;simp;exact bad _ 1 (by rw[e1,zuT (.inr c4)])
 simp at c4;rw[zuV (by omega)] at e1;simp;refine zb.go (ztd _ c.id c.j c.x c.r c.y c.p) (fun _ _ h=>h.elim) ?_;intro u g' hN;by_cases hk:Zl c.id c.j c.r c.y c.p
 ·rw[zuT hk] at hN e1;obtain⟨o',J',k1,rfl,rfl,k2⟩:=hN;have hfl:(m.ms.flatMap jq).length=m.ms.length*5:=zf jB m.ms;simp[hi,li,hl,ll,hne,hne',hfl,show(m.ms.length+1)*56≤140737488355328 by omega];refine⟨.inr (by simp[grS,Gi.ids]),.inr (by simp[grS,Gi.ids]),?_⟩;have hX:∀(A B:XO) (J0 J' K:XH) (j:Nat),g.length≤j→j<(g++J0++J').length→((g.set o.l A).set o.i B++(J0++(J'++K)))[j]? =(g++J0++J')[j]? :=by
   intro A B J0 J' K j h1 h2;rw[zu9] at h2⊢;rw[zuP (by simp;exact h1),zuP h1,←zu9,zuO (by simp at h2⊢;omega)];simp
  have hO:∀(A B:XO) (K:XH) (j:Nat),j<g.length→j≠o.i→j≠o.l→((g.set o.l A).set o.i B++K)[j]? =g[j]? :=by intro A B K j h1 h2 h3;rw[zuO (by simp;exact h1),zuU (fun e=>h2 e.symm),zuU (fun e=>h3 e.symm)]
  have hI:∀(A B:XO) (K:XH),((g.set o.l A).set o.i B++K)[o.i]? =some B∧((g.set o.l A).set o.i B++K)[o.l]? =some A:=by
   intro A B K;constructor
   ·rw[zuO (by simp;exact li),zu2 (by simp;exact li)]
   ·rw[zuO (by simp;exact ll),zuU hne,zu2 ll]
  have k1':∀j∈o'.ids,g.length≤j:=fun j hj=>zvB (by simp) (k1 j hj);have hE2:=fun A B K=>k2.same (G:=(g.set o.l A).set o.i B++([.own 0 28 12 (y5 c),.own 0 69 5 (setX [.v (.str ⟨#[]⟩),.v (.str ⟨#[]⟩),.v (.int .i64 0),.v (.int .i64 0),.v .nilp] 0 F)]++(J'++K))) (fun j hj=>hX A B _ J' K j (k1' j hj) (k2.lt j hj));have hG:=fun w' K=>hP.more (w:=w') k1' (hE2 _ _ K) (hI _ _ _).1 (hI _ _ _).2 (fun j h1 h2 h3=>hO _ _ _ j h1 h2 h3);refine Gh.here (hΨ _ _ (by
   rw[e1];refine⟨rfl,_,⟨hG (w+1) [_],⟨by simp,fun j h1 h2=>hO _ _ _ j h1 (fun e=>h2 (by rw[e];simp[grS,Gi.ids])) (fun e=>h2 (by rw[e];simp[grS,Gi.ids]))⟩,fun j hj=> ?_⟩,o',rfl⟩;simp only[Gm.ids,zvq,zvS,zwR,zvl,zuX] at hj;exact hj.imp id (k1' j)))
 ·rw[zuV hk] at hN e1;obtain⟨rfl,rfl⟩:=hN;simp;exact bad _ 1 e1
theorem GrpP.ne{g:XH}{o:Gi}{m:Gm}(h:GrpP g o m){i j:Nat}(hi:i∈o.ids)(hj:j∈m.ids):i≠j:=(zvH.1 h.nd).2.2 i hi j hj
theorem GrpP.setC{g H:XH}{o:Gi}{m:Gm}(h:GrpP g o m){c':List Pa}(hs:∀j∈o.ids++m.ids,j≠o.c→H[j]? =g[j]?)(hc:QM H o.c c'):GrpP H o {m with c:=c'}:=by
 have hP:=h;obtain⟨nd,⟨w,h1,h2⟩,⟨w1,h3,h4⟩,⟨w2,h5,h6⟩,h7,h8⟩:=h;have n1:=(zvH.1 nd).1;simp[Gi.ids] at n1;obtain⟨⟨a1,a2,a3,a4,a5,a6⟩,⟨b2,b3,b4,b5,b6⟩,⟨c3,c4,c5,c6⟩,⟨d4,d5,d6⟩,⟨e5,e6⟩,f6⟩:=n1;have q:∀i∈o.ids,i≠o.c→H[i]? =g[i]? :=fun i hi=>hs i (zvk _ hi);refine⟨nd,⟨w,?_,?_⟩,⟨w1,?_,?_⟩,⟨w2,?_,?_⟩,hc,fun x hx=>(h8 x hx).same fun i hi=>hs i (zvx _ (zvr.2 ⟨x,hx,hi⟩)) fun e=>hP.ne (i:=o.c) (by simp[Gi.ids]) (zvr.2 ⟨x,hx,hi⟩) e.symm⟩
 ·rw[q o.i (by simp[Gi.ids]) a6];exact h1
 ·rw[q o.l (by simp[Gi.ids]) b6];exact h2
 ·rw[q o.t (by simp[Gi.ids]) c6];exact h3
 ·rw[q o.tk (by simp[Gi.ids]) d6];exact h4
 ·rw[q o.s (by simp[Gi.ids]) e6];exact h5
 ·rw[q o.sk (by simp[Gi.ids]) f6];exact h6
theorem GrpP.setT{g H:XH}{o:Gi}{m:Gm}(h:GrpP g o m){t':List Rw}(hs:∀j∈o.ids++m.ids,j≠o.t→j≠o.tk→H[j]? =g[j]?)(ht:qO 145 140 H o.t o.tk t'):GrpP H o {m with t:=t'}:=by
 have hP:=h;obtain⟨nd,⟨w,h1,h2⟩,_,⟨w2,h5,h6⟩,h7,h8⟩:=h;have h7:g[o.c]? =_:=h7;have n1:=(zvH.1 nd).1;simp[Gi.ids] at n1;obtain⟨⟨a1,a2,a3,a4,a5,a6⟩,⟨b2,b3,b4,b5,b6⟩,⟨c3,c4,c5,c6⟩,⟨d4,d5,d6⟩,⟨e5,e6⟩,f6⟩:=n1;have q:∀i∈o.ids,i≠o.t→i≠o.tk→H[i]? =g[i]? :=fun i hi=>hs i (zvk _ hi);refine⟨nd,⟨w,?_,?_⟩,ht,⟨w2,?_,?_⟩,?_,fun x hx=>(h8 x hx).same fun i hi=>hs i (zvx _ (zvr.2 ⟨x,hx,hi⟩)) (fun e=>hP.ne (i:=o.t) (by simp[Gi.ids]) (zvr.2 ⟨x,hx,hi⟩) e.symm) fun e=>hP.ne (i:=o.tk) (by simp[Gi.ids]) (zvr.2 ⟨x,hx,hi⟩) e.symm⟩
 ·rw[q o.i (by simp[Gi.ids]) a2 a3];exact h1
 ·rw[q o.l (by simp[Gi.ids]) b2 b3];exact h2
 ·rw[q o.s (by simp[Gi.ids]) (fun e=>c4 e.symm) (fun e=>d4 e.symm)];exact h5
 ·rw[q o.sk (by simp[Gi.ids]) (fun e=>c5 e.symm) (fun e=>d5 e.symm)];exact h6
 ·unfold QM;rw[q o.c (by simp[Gi.ids]) (fun e=>c6 e.symm) (fun e=>d6 e.symm)];exact h7
theorem GrpP.setE{g H:XH}{o:Gi}{m:Gm}(h:GrpP g o m){a b:List (Eo×Ent)}{x:Eo×Ent}(hm:m.ms=a++x::b){o':Eo}{e':Ent}{js':List Jo}(ho:o'.i=x.1.i)(hids:∀j∈o'.ids,j∈x.1.ids∨g.length≤j)(hE:EntP H o' e')(hk:e'.id=x.2.id∧e'.j=x.2.j∧e'.fx=x.2.fx∧e'.first=x.2.first)(hs:∀j,j<g.length→¬esS x.1 o.s o.sk j→H[j]? =g[j]?)(hst:qb H o.s o.sk js'):GrpP H o {m with js:=js',ms:=a++(o',e')::b}:=by
 have hP:=h;have hlt:=h.lt;obtain⟨nd,⟨w,h1,h2⟩,⟨w1,h3,h4⟩,_,h7,h8⟩:=h;have h7:g[o.c]? =_:=h7;have n1:=(zvH.1 nd).1;simp[Gi.ids] at n1;obtain⟨⟨a1,a2,a3,a4,a5,a6⟩,⟨b2,b3,b4,b5,b6⟩,⟨c3,c4,c5,c6⟩,⟨d4,d5,d6⟩,⟨e5,e6⟩,f6⟩:=n1;have hx:x∈m.ms:=by rw[hm];simp
 have hxm:∀j∈x.1.ids,j∈m.ids:=fun j hj=>zvr.2 ⟨x,hx,hj⟩;have q:∀i∈o.ids,i≠o.s→i≠o.sk→H[i]? =g[i]? :=fun i hi k1 k2=>hs i (hlt i (zvk _ hi)) fun e=>by
  rcases e with e|e|e
  ·exact hP.ne hi (hxm i e) rfl
  ·exact k1 e
  ·exact k2 e
 have hmi:m.ids=a.flatMap (fun x=>x.1.ids)++(x.1.ids++b.flatMap (fun x=>x.1.ids)):=by unfold Gm.ids;rw[hm];simp
 rw[hmi] at nd hlt hxm;have hP2:=hP;have sub:∀y∈a++b,y∈m.ms:=fun y hy=>by rw[hm];rw[zuX] at hy⊢;exact hy.imp id (zvO _)
 have enc:jq (o',e')=jq x:=by simp[jq,hk.1,hk.2.1,hk.2.2.1,hk.2.2.2,ho]
 generalize hA:a.flatMap (fun x:Eo×Ent=>x.1.ids)=A at *;generalize hB:b.flatMap (fun x:Eo×Ent=>x.1.ids)=B at *;have hAx:∀y∈a++b,∀j∈y.1.ids,j∈A++B:=fun y hy j hj=>by
  rw[zuX] at hy⊢;rcases hy with hy|hy
  ·exact .inl (hA▸zvr.2 ⟨y,hy,hj⟩)
  ·exact .inr (hB▸zvr.2 ⟨y,hy,hj⟩)
 simp only[zvH,zuX] at nd;obtain⟨nO,⟨nA,⟨nX,nB,nXB⟩,nAXB⟩,nOm⟩:=nd;have dis:∀y∈a++b,∀j∈y.1.ids,j∉x.1.ids:=fun y hy j hj hjx=>by
  have:=hAx y hy j hj;rw[zuX] at this;rcases this with h|h
  ·exact nAXB j h j (.inl hjx) rfl
  ·exact nXB j hjx j h rfl
 have ltA:∀j,j∈A∨j∈B→j<g.length:=fun j hj=>hlt j (by simp only[zuX];rcases hj with h|h<;>simp[h]);have ltO:∀j∈o.ids,j<g.length:=fun j hj=>hlt j (by simp only[zuX];exact .inl hj);refine⟨?_,⟨w,?_,?_⟩,⟨w1,?_,?_⟩,hst,?_,?_⟩
 ·simp only[Gm.ids,zvq,zvS,hA,hB,zvH,zuX];refine⟨nO,⟨nA,⟨hE.nd,nB,fun j hj k hk e=> ?_⟩,fun j hj k hk e=> ?_⟩,fun j hj k hk e=> ?_⟩
  ·subst e;rcases hids j hj with h|h
   ·exact nXB j h j hk rfl
   ·have:=ltA j (.inr hk);omega
  ·subst e;rcases hk with hk|hk
   ·rcases hids j hk with h|h
    ·exact nAXB j hj j (.inl h) rfl
    ·have:=ltA j (.inl hj);omega
   ·exact nAXB j hj j (.inr hk) rfl
  ·subst e;rcases hk with hk|hk|hk
   ·exact nOm j hj j (.inl hk) rfl
   ·rcases hids j hk with h|h
    ·exact nOm j hj j (.inr (.inl h)) rfl
    ·have:=ltO j hj;omega
   ·exact nOm j hj j (.inr (.inr hk)) rfl
 ·rw[q o.i (by simp[Gi.ids]) a4 a5,h1,hm];simp
 ·rw[q o.l (by simp[Gi.ids]) b4 b5,h2,hm];simp only[zvq,zvS,enc]
 ·rw[q o.t (by simp[Gi.ids]) c4 c5];exact h3
 ·rw[q o.tk (by simp[Gi.ids]) d4 d5];exact h4
 ·unfold QM;rw[q o.c (by simp[Gi.ids]) (fun e=>e6 e.symm) (fun e=>f6 e.symm)];exact h7
 ·intro y hy;simp only[zuX,zu4] at hy;by_cases hyx:y=(o',e')
  ·subst hyx;exact hE
  ·have hy':y∈a++b:=by
    rw[zuX];rcases hy with h|h|h
    ·exact .inl h
    ·exact absurd h hyx
    ·exact .inr h
   refine(h8 y (sub y hy')).same fun j hj=>hs j ((h8 y (sub y hy')).lt j hj) fun e=> ?_;rcases e with e|e|e
   ·exact dis y hy' j hj e
   ·exact hP2.ne (i:=o.s) (by simp[Gi.ids]) (zvr.2 ⟨y,sub y hy',hj⟩) e.symm
   ·exact hP2.ne (i:=o.sk) (by simp[Gi.ids]) (zvr.2 ⟨y,sub y hy',hj⟩) e.symm
theorem zf1(e:Ent)(d:Int×Sta):(zz e d).2.id=e.id∧(zz e d).2.j=e.j∧(zz e d).2.fx=e.fx∧(zz e d).2.first=e.first:=by
 unfold zz;split
 ·exact⟨rfl,rfl,rfl,rfl⟩
 ·split<;>exact⟨rfl,rfl,rfl,rfl⟩
theorem zen(t:List Rw)(js:List Jo)(e:Ent):(yr t js e).2.1.id=e.id∧(yr t js e).2.1.j=e.j∧(yr t js e).2.1.fx=e.fx∧(yr t js e).2.1.first=e.first:=by
 unfold yr;split
 ·exact⟨rfl,rfl,rfl,rfl⟩
 ·simp only;split
  ·exact⟨rfl,rfl,rfl,rfl⟩
  ·split<;>exact⟨rfl,rfl,rfl,rfl⟩
theorem zfV(js:List Jo)(e:Ent):(yP js e).2.1.id=e.id∧(yP js e).2.1.j=e.j∧(yP js e).2.1.fx=e.fx∧(yP js e).2.1.first=e.first:=by
 unfold yP;split
 ·exact⟨rfl,rfl,rfl,rfl⟩
 ·split
  ·exact⟨rfl,rfl,rfl,rfl⟩
  ·simp only;split<;>exact⟨rfl,rfl,rfl,rfl⟩
theorem zch(t:List Rw)(js:List Jo)(e:Ent)(c:Cmd):(yk t js e c).2.1.id=e.id∧(yk t js e c).2.1.j=e.j∧(yk t js e c).2.1.fx=e.fx∧(yk t js e c).2.1.first=e.first:=by
 unfold yk
 repeat' split
 all_goals first|exact zf1 _ _|exact zen _ _ _|exact zfV _ _
def Yc(m:Gm)(c:Cmd):Int×List Pa:=if(z6 m c.id).isNone∨(z6 m c.id2).isNone then(3,m.c) else j0 m.c c.id c.id2 c.n
theorem zqz{g:XH}{o:Gi}{m:Gm}(h:GrpP g o m)(hL:GrpL m)(c:Cmd):Cl C (grS o m) 27 [.s (.ptr o.i 0 0),.agg (y5 c)] g fun u g'=>u=fi (Yc m c).1∧GrpS g o m g' {m with c:=(Yc m c).2}:=by
 have hP:=h;obtain⟨nd,⟨w,hi,hl⟩,_,_,hc,_⟩:=h;have li:=zd hi;have hci:g[o.c]? =_:=hc;have lc:=zd hci;refine Cl.ip rfl (zuJ rfl) fun Ψ hΨ=> ?_;simp;refine zb.go0 (QC hP.app hL c.id) ?_;rw[Ye];have hml:=zaR (z6 m c.id);generalize zjr (z6 m c.id)=F at *;simp[hml];refine zb.go0 (QC hP.app hL c.id2) ?_;rw[Ye];have hml2:=zaR (z6 m c.id2);generalize zjr (z6 m c.id2)=F2 at *;simp[hml2];have bad:∀J,((z6 m c.id).isNone∨(z6 m c.id2).isNone)→Gh (grS o m) g Ψ (fi 3) (g++J):=fun J h=>Gh.here (hΨ _ _ (by unfold Yc;rw[zuT h];exact⟨rfl,GrpS.here hP⟩));cases h1:z6 m c.id with
 |none=>
  simp;exact bad _ (.inl (by rw[h1];rfl))
 |some x=>
  cases h2:z6 m c.id2 with
  |none=>
   simp;exact bad _ (.inr (by rw[h2];rfl))
  |some y=>
   have e1:Yc m c=j0 m.c c.id c.id2 c.n:=by unfold Yc;rw[zuV (by rw[h1,h2];simp)]
   simp[hi,li];refine zb.go (zs2 hc.app hL.c hL.cu c.id c.id2 c.n) (fun z hz e=> .inr (by rw[e];simp[grS,Gi.ids])) ?_;rintro u g' ⟨rfl,rfl⟩;simp[lc];refine Gh.here (hΨ _ _ ?_);rw[e1];have hs:∀(A:XO) (J:XH) (j:Nat),j<g.length→j≠o.c→(g.set o.c A++J)[j]? =g[j]? :=fun A J j h1 h2=>by rw[zuO (by simp;exact h1),zuU (fun e=>h2 e.symm)]
   refine⟨rfl,hP.setC (fun j hj hn=>hs _ _ j (hP.lt j hj) hn) ?_,⟨by simp,fun j h1 h2=>hs _ _ j h1 fun e=>h2 (by rw[e];simp[grS,Gi.ids])⟩,fun j hj=> .inl hj⟩;unfold QM;rw[zuO (by simp;exact lc),zu2 lc]
noncomputable def zaA(m:Gm)(k:Int)(c:Cmd)(r:Int)(m':Gm):Prop:=
 if k≠0 then r=k∧m'=m
 else if c.k=1 then r=(qy m.t c.j c.y c.r c.p).1∧m'={m with t:=(qy m.t c.j c.y c.r c.p).2}
 else if c.k=2 then r=(ZN m c).1∧match(ZN m c).2 with
  |some e=>∃o',m'={m with ms:=m.ms++[(o',e)]}
  |none=>m'=m
 else if c.k=10 then r=(Yc m c).1∧m'={m with c:=(Yc m c).2}
 else match z6 m c.id with
  |none=>r=3∧m'=m
  |some x=>r=(yk m.t m.js x.2 c).1∧∃a b o',m.ms=a++x::b∧m'={m with js:=(yk m.t m.js x.2 c).2.2,ms:=a++(o',(yk m.t m.js x.2 c).2.1)::b}
theorem grpDo{g:XH}{o:Gi}{m:Gm}(h:GrpP g o m)(hL:GrpL m)(c:Cmd)(hp:c.p≤9223372036854775807){k:Int}(hk:∀g:XH,Cl C (fun _=>False) 24 [.agg (y5 c)] g fun u g'=>u=fi k∧g'=g):Cl C (grS o m) 9 [.s (.ptr o.i 0 0),.agg (y5 c)] g fun u g'=>∃r m',u=fi r∧GrpS g o m g' m'∧zaA m k c r m':=by
 have hP:=h;have hlt:=h.lt;obtain⟨nd,⟨w,hi,hl⟩,ht,_,_,_⟩:=h;have li:=zd hi;have n1:=(zvH.1 nd).1;simp[Gi.ids] at n1;obtain⟨⟨a1,a2,a3,a4,a5,a6⟩,⟨b2,b3,b4,b5,b6⟩,⟨c3,c4,c5,c6⟩,⟨d4,d5,d6⟩,⟨e5,e6⟩,f6⟩:=n1;refine Cl.ip rfl (zuJ rfl) fun Ψ hΨ=> ?_;simp;refine zb.go0 (hk _) ?_;simp;refine zc (fun k0=> ?_) (fun k0=> ?_)
 ·simp at k0;simp;exact Gh.here (hΨ _ _ ⟨k,m,rfl,GrpS.here hP,by unfold zaA;rw[zuT k0];exact⟨rfl,rfl⟩⟩)
 simp at k0
 have e0:∀r m',zaA m k c r m'=(if c.k=1 then r=(qy m.t c.j c.y c.r c.p).1∧m'={m with t:=(qy m.t c.j c.y c.r c.p).2}
  else if c.k=2 then r=(ZN m c).1∧match(ZN m c).2 with
   |some e=>∃o',m'={m with ms:=m.ms++[(o',e)]}
   |none=>m'=m
  else if c.k=10 then r=(Yc m c).1∧m'={m with c:=(Yc m c).2}
  else match z6 m c.id with
   |none=>r=3∧m'=m
   |some x=>r=(yk m.t m.js x.2 c).1∧∃a b o',m.ms=a++x::b∧m'={m with js:=(yk m.t m.js x.2 c).2.2,ms:=a++(o',(yk m.t m.js x.2 c).2.1)::b}):=fun r m'=>by
  unfold zaA;rw[zuV (by simpa using k0)]
 simp;refine zc (fun q1=> ?_) (fun q1=> ?_)
 ·simp at q1;simp[hi,li];refine zb.go (zuh ht.app c3 hL.t c.j c.y c.r c.p) (fun z hz e=> .inr (by rcases e with rfl|rfl<;>simp[grS,Gi.ids])) ?_;rintro u g' ⟨rfl,w2,rfl⟩;simp;have hsame:∀(J:XH) (j:Nat),j≠o.t→j≠o.tk→(JF 145 140 (g++J) o.t o.tk w2 (qy m.t c.j c.y c.r c.p).2)[j]? =(g++J)[j]? :=fun J j h1 h2=>by
   unfold JF;rw[zuU (fun e=>h1 e.symm),zuU (fun e=>h2 e.symm)]
  have lt1:o.t<g.length:=hlt o.t (by simp[Gi.ids]);have lt2:o.tk<g.length:=hlt o.tk (by simp[Gi.ids])
  have hT:∀J:XH,qO 145 140 (JF 145 140 (g++J) o.t o.tk w2 (qy m.t c.j c.y c.r c.p).2) o.t o.tk (qy m.t c.j c.y c.r c.p).2:=fun J=>⟨w2,by
   unfold JF;rw[zu2 (by simp;omega)],by
   unfold JF;rw[zuU c3,zu2 (by simp;omega)]⟩
  refine Gh.here (hΨ _ _ ⟨_,_,rfl,⟨hP.setT (fun j hj h1 h2=>by rw[hsame _ j h1 h2,zq (hlt j hj)]) (hT _),⟨by simp[JF],fun j h1 h2=> ?_⟩,fun j hj=> .inl hj⟩,by rw[e0,zuT q1];exact⟨rfl,rfl⟩⟩);rw[hsame _ j (fun e=>h2 (by rw[e];simp[grS,Gi.ids])) (fun e=>h2 (by rw[e];simp[grS,Gi.ids])),zq h1]
 simp at q1;refine zc (fun q2=> ?_) (fun q2=> ?_)
 ·simp at q2;simp;refine zb.go (zqA hP.app hL c) (fun z hz e=> .inr e) ?_;rintro u g' ⟨rfl,m',hS,hm⟩;simp;exact Gh.here (hΨ _ _ ⟨_,m',rfl,⟨hS.p,hS.u.cut,fun j hj=>(hS.n j hj).imp id fun h=>zvB (by simp) h⟩,by rw[e0,zuV q1,zuT q2];exact⟨rfl,hm⟩⟩)
 simp at q2;refine zc (fun q3=> ?_) (fun q3=> ?_)
 ·simp at q3;simp;refine zb.go (zqz hP.app hL c) (fun z hz e=> .inr e) ?_;rintro u g' ⟨rfl,hS⟩;simp;exact Gh.here (hΨ _ _ ⟨_,_,rfl,⟨hS.p,hS.u.cut,fun j hj=>(hS.n j hj).imp id fun h=>zvB (by simp) h⟩,by rw[e0,zuV q1,zuV q2,zuT q3];exact⟨rfl,rfl⟩⟩)
 simp at q3;simp;refine zb.go0 (QC hP.app hL c.id) ?_;cases hf:z6 m c.id with
 |none=>
  simp[JX];exact Gh.here (hΨ _ _ ⟨3,m,rfl,GrpS.here hP,by rw[e0,zuV q1,zuV q2,zuV q3,hf];exact⟨rfl,rfl⟩⟩)
 |some x=>
  have hx:x∈m.ms:=zv0 hf;simp[JX,jq];have hsub:∀z,esS x.1 o.s o.sk z→grS o m z:=fun z e=>by
   unfold grS;rw[zuX];rcases e with e|e|e
   ·exact .inr (zvr.2 ⟨x,hx,e⟩)
   ·rw[e];exact .inl (by simp[Gi.ids])
   ·rw[e];exact .inl (by simp[Gi.ids])
  refine zb.go (zqC hP.app hL hx c hp) (fun z hz e=> .inr (hsub z e)) ?_;rintro u g' ⟨rfl,⟨o',t1,t2,t3⟩,t4,t5⟩;simp;obtain⟨a,b,hab⟩:=List.append_of_mem hx;have t6:=t5.cut;have t2':∀j∈o'.ids,j∈x.1.ids∨g.length≤j:=fun j hj=>(t2 j hj).imp id fun h=>zvB (by simp) h;refine Gh.here (hΨ _ _ ⟨_,_,rfl,⟨hP.setE hab t1 t2' t3 (zch m.t m.js x.2 c) (fun j h1 h2=>t6.same j h1 h2) t4,t6.mono hsub,fun j hj=> ?_⟩,by rw[e0,zuV q1,zuV q2,zuV q3,hf];exact⟨rfl,a,b,o',hab,rfl⟩⟩);simp only[Gm.ids,zvq,zvS,zuX] at hj⊢;rw[hab];simp only[zvq,zvS,zuX];rcases hj with h|h|h
  ·exact .inl (.inl h)
  ·exact(t2' j h).imp (fun h=> .inr (.inl h)) id
  ·exact .inl (.inr (.inr h))
theorem zb4{g:XH}{o:Gi}{m:Gm}(h:GrpP g o m)(hL:GrpL m):Cl C (fun _=>False) 17 [.s (.ptr o.i 0 0)] g (qk g 184 6 m.js.length (m.js.flatMap jd)):=by obtain⟨nd,⟨w,hi,hl⟩,_,hs,_,_⟩:=h;have li:=zd hi;refine Cl.ip rfl (zuJ rfl) fun Ψ hΨ=> ?_;simp[hi,li];refine zb.go (zcg hs hL.s) (fun _ _ h=>h.elim) ?_;rintro u g' ⟨w1,rfl,rfl⟩;simp;exact Gh.here (hΨ _ _ ⟨w1,rfl,rfl⟩)
theorem zlZ{g:XH}{o:Gi}{m:Gm}(h:GrpP g o m)(hL:GrpL m)(id:ByteArray):Cl C (fun _=>False) 15 [.s (.ptr o.i 0 0),fs id] g fun u g'=>match z6 m id with
 |some x=>∃o' J,(∀i∈o'.ids,g.length≤i)∧u= .s (.ptr o'.i 0 0)∧g'=g++J∧EntP g' o' x.2
 |none=>u= .s (.v .nilp)∧g'=g:=by
 have hP:=h;obtain⟨nd,⟨w,hi,hl⟩,_,_,_,he⟩:=h;have li:=zd hi;refine Cl.ip rfl (zuJ rfl) fun Ψ hΨ=> ?_;simp;refine zb.go0 (QC hP hL id) ?_;cases hf:z6 m id with
 |none=>
  simp[JX];exact Gh.pure (u':= .s (.v .nilp)) (.s (.lt (by simp))) (hΨ _ _ (by rw[hf];exact⟨rfl,rfl⟩))
 |some x=>
  have hx:x∈m.ms:=zv0 hf;simp[JX,jq];refine zb.go (zhh (he x hx).app (hL.e x hx)) (fun _ _ h=>h.elim) ?_;rintro u g' ⟨o',J,h1,rfl,rfl,h2⟩;simp at h2⊢;exact Gh.here (hΨ _ _ (by rw[hf];exact⟨o',_,fun i hi=>zvB (by simp) (h1 i hi),rfl,rfl,h2⟩))
def zdN(p:Int)(x:Eo×Ent):Bool:=decide (x.2.first≤p)&& !(qR x.2 p).isSome
theorem ztF(x:Eo×Ent){p:Int}(hp:p≤9223372036854775807){g:XH}{a:Nat}(ha:g[a]? =some (.own 0 3 1 [xi p]))(hE:EntP g x.1 x.2)(hL:EntL x.2):Cl C (fun _=>False) 79 [.agg (jq x),.s (.ptr a 0 0)] g fun u g'=>u=fb (zdN p x)∧g'=g:=by
 have la:=zd ha;refine Cl.ip rfl (zuJ rfl) fun Ψ hΨ=> ?_;simp[jq,ha,la];refine zb.go0 (Y4 hE.app hL p hp) ?_;simp[zfd,zC,pC,zP,zi,zD,ha,la];refine zc (fun h1=> ?_) (fun h1=> ?_)
 ·simp at h1;simp;exact Gh.pure (.s (.lt (by simp))) (hΨ _ _ ⟨by simp[zdN,h1],rfl⟩)
 ·simp at h1;simp;exact Gh.pure (.s (.lt (by simp))) (hΨ _ _ ⟨by simp[zdN];omega,rfl⟩)
def zcs(m:Gm)(p:Int):Bool:= !m.ms.any (zdN p)
theorem zlY{g:XH}{o:Gi}{m:Gm}(h:GrpP g o m)(hL:GrpL m){p:Int}(hp:p≤9223372036854775807):Cl C (fun _=>False) 31 [.s (.ptr o.i 0 0),fi p] g fun u g'=>u=fb (zcs m p)∧g'=g:=by obtain⟨nd,⟨w,hi,hl⟩,_,_,_,he⟩:=h;have li:=zd hi;have hn:=hL.n;refine Cl.ip rfl (zuJ rfl) fun Ψ hΨ=> ?_;simp[hi,li];refine zb.go0 (Qv (q:=zdN p) (f:=78) (fi':=68) rfl rfl jB (by decide) (RdX.sl jB hl).app (by omega) (.inr ⟨g.length+1,79,[],[.s (.ptr g.length 0 0)],rfl,by simp,fun x hx=>ztF x hp (by simp) (he x hx).app (hL.e x hx)⟩)) ?_;simp;exact Gh.pure (.s (.lt (by simp))) (hΨ _ _ ⟨rfl,rfl⟩)
def ziP(m:Gm)(b:ByteArray):ByteArray:=match z6 m b with
 |some x=>x.2.j
 |none=>⟨#[]⟩
def qF(m:Gm)(p:Int)(x:Pa):Int×Int:=yR m.t (ziP m x.b) p
def qT(m:Gm)(p:Int):Int×Int:=match m.c.find? fun x=> !((qF m p x).2==0) with
 |some x=>(0,(qF m p x).2)
 |none=>zg6 m.c (m.c.map fun x=>(qF m p x).1)
theorem len5{α:Type}{l:List α}(h:l.length=5):∃a b c d e,l=[a,b,c,d,e]:=by
 match l,h with
 |[a,b,c,d,e],_=>exact⟨_,_,_,_,_,rfl⟩
theorem ztD(m:Gm)(b:ByteArray):(zjr (z6 m b))[1]? =some (xs (ziP m b)):=by unfold ziP;cases z6 m b<;>rfl
theorem znH{g:XH}{o:Gi}{m:Gm}(h:GrpP g o m)(hL:GrpL m)(p:Int):Cl C (fun _=>False) 36 [.s (.ptr o.i 0 0),fi p] g fun u g'=>u= .tup [fi (qT m p).1,fi (qT m p).2]∧g'=g:=by
 have hP:=h;obtain⟨nd,⟨w,hi,hl⟩,ht,_,hc,_⟩:=h;have li:=zd hi;have hcl:=hL.c;have htl:=hL.t;refine Cl.ip rfl (zuJ rfl) fun Ψ hΨ=> ?_;simp[hi,li];refine zb.go0 (Fresh.frz (zcu hc (by omega)) (zhf _ _) (by rw[zf yg])) ?_;simp;refine Lp.genG 3 1 (σ:=Nat) m.c.length (fun k w=>[(7,.s (.sl g.length w 0 k)),(21,fi k)]) (fun k w=>g++[.own w 3 1 (((m.c.take k).map fun x=>(qF m p x).1).flatMap zR)]) (fun k _=>∀x∈m.c.take k,(qF m p x).2=0) 0 (by decide) rfl (by simp[GhF]) (by simp) (fun x hx=>by simp at hx) ?_ ?_
 ·rintro q hq w2 hok hlt N hN;obtain⟨a1,a2,a3⟩:=atX yg hq;have e1:m.c.take (q+1)=m.c.take q++[m.c[q]]:=zu3 hq;have hfl:(((m.c.take q).map fun x=>(qF m p x).1).flatMap zR).length=q:=by rw[zf zG];simp;omega
  have hlF:∀k,zr k (((m.c.take q).map fun x=>(qF m p x).1).flatMap zR):=fun k=>zns k _;have hfind:m.c.find? (fun x=> !((qF m p x).2==0))=if(qF m p m.c[q]).2=0 then(m.c.drop (q+1)).find? (fun x=> !((qF m p x).2==0)) else some m.c[q]:=by
   conv=>lhs;rw[←zvn q m.c]
   rw[zxA,zwH.2 (fun x hx=>by simp[hok x hx]),zvt hq,zxu];by_cases hz:(qF m p m.c[q]).2=0
   ·simp[hz]
   ·have hb:(!((qF m p m.c[q]).2==0))=true:=by simpa using hz
    rw[hb,zuV hz];rfl
  rw[e1,zvs,zvq] at hN;simp only[zuX] at hN;generalize((m.c.take q).map fun x=>(qF m p x).1).flatMap zR=F at *;generalize m.c[q]=x at *;simp[l36_0,hq,a1,a2,j5];refine zb.go0 (QC hP.app hL x.b) ?_;rw[Ye];have hml:=zaR (z6 m x.b);have hj:=ztD m x.b;generalize zjr (z6 m x.b)=M at *;obtain⟨m0,m1,m2,m3,m4,rfl⟩:=len5 hml;simp at hj;subst hj;simp[hi,li];refine zb.go0 (zhR ht.app (by omega) (ziP m x.b) p) ?_;have hnx:yR m.t (ziP m x.b) p=qF m p x:=rfl;rw[hnx];simp;refine zc (fun c1=> ?_) (fun c1=> ?_)
  ·simp at c1;simp;exact Gh.pure (.t2 .i .i) (hΨ _ _ ⟨by unfold qT;rw[hfind,zuV c1],rfl⟩)
  simp at c1;simp[hfl,show(q+1)*8≤140737488355328 by omega,yB hq (by omega)];refine y7 (fun fr g'=>hN (w2+1) fr g' ?_) (by simp) (by simp) (by simpa using hlt) (by simp[lvO,hlF]);rintro y (hy|hy)
  ·exact hok y hy
  ·rw[zvm] at hy;subst hy;exact c1
 ·rintro w2 hok;rw[zvd] at hok⊢;simp[l36_0];have hfn:m.c.find? (fun x=> !((qF m p x).2==0))=none:=zwH.2 fun x hx=>by simp[hok x hx]
  have hml:(m.c.map fun x=>(qF m p x).1).length=m.c.length:=by simp
  have hA:=fun G (h:RdX G 3 1 zR (.sl g.length w2 0 m.c.length) (m.c.map fun x=>(qF m p x).1))=>znk (RdX.lst G m.c) h (by omega);refine zb.go0 (hA _ (by rw[←hml];exact RdX.sl zG (by simp))) ?_;simp;exact Gh.pure (.t2 .i .i) (hΨ _ _ ⟨by unfold qT;rw[hfn],rfl⟩)
theorem zm4(a b:List It):(zek a b).length≤a.length+b.length:=by have:=zan (a++b) [];simp only[zuR,zwb] at this;unfold zek;rw[zJ];omega
theorem zlD(l:List It)(fx:Int):(jK l fx).2.1.length≤20:=by
 unfold jK;split
 ·simp
 ·split
  ·simp
  ·split
   ·simp
   ·rename_i h _ _;simp;omega
def QR(p:Int):List (Eo×Ent)→List It→Int→Int×List It×Int
 |[],it,d=>(0,it,d)
 |x::l,it,d=>match qR x.2 p with
  |none=>QR p l it d
  |some q=>if(jK (ql q) x.2.fx).1≠0 then((jK (ql q) x.2.fx).1,[],0) else QR p l (zek it (jK (ql q) x.2.fx).2.1) (wr (d+(jK (ql q) x.2.fx).2.2))
structure Rep where
 items:List It
 diff:Int
 total:Int
 asset:Int
def zbk(r:Rep):List XV:=[zaP r.items,xi r.diff,xi r.total,xi r.asset]
def Zy(m:Gm)(p:Int):Int×Rep:=
 if¬zl p=true then(1,⟨[],0,0,0⟩)
 else if¬zcs m p=true then(8,⟨[],0,0,0⟩)
 else
  let s:=QR p m.ms [] 0
  if s.1≠0 then(s.1,⟨[],0,0,0⟩)
  else if(qT m p).2≠0 then((qT m p).2,⟨[],0,0,0⟩)
  else(0,⟨s.2.1,s.2.2,wr (zgR s.2.1+s.2.2),(qT m p).1⟩)
theorem zl0{g:XH}{o:Gi}{m:Gm}(h:GrpP g o m)(hL:GrpL m)(p:Int):Cl C (fun _=>False) 10 [.s (.ptr o.i 0 0),fi p] g fun u g'=>u= .tup [.agg (zbk (Zy m p).2),fi (Zy m p).1]∧g'=g:=by
 have hP:=h;obtain⟨nd,⟨w,hi,hl⟩,_,_,_,he⟩:=h;have li:=zd hi;have ll:=zd hl;have hn:=hL.n;refine Cl.ip rfl (zuJ rfl) fun Ψ hΨ=> ?_;have lx:∀n:Int,lvV g.length (xi n):=fun n=>by simp
 have bad:∀(J:XH) (e:Int),Zy m p=(e,⟨[],0,0,0⟩)→Gh (fun _=>False) g Ψ (.tup [.agg [.v .nils,xi 0,xi 0,xi 0],fi e]) (g++J):=fun J e h=>Gh.pure (.t2 (.agg (.cons (.nil (t:=43) (z:=2)) (.cons (.lt (lx _)) (.cons (.lt (lx _)) (.cons (.lt (lx _)) .nil))))) .i) (hΨ _ _ ⟨by rw[h];rfl,rfl⟩);simp;refine zb.pure (Zh ..) ?_;simp;refine zc (fun c1=> ?_) (fun c1=> ?_)
 rotate_left
 ·simp;exact bad _ 1 (by simp[Zy,c1])
 have hp:p≤9223372036854775807:=by simp[zl] at c1;omega
 simp;refine zb.go0 (zlY hP.app hL hp) ?_;simp;refine zc (fun c2=> ?_) (fun c2=> ?_)
 rotate_left
 ·simp;exact bad _ 8 (by simp[Zy,c1,c2])
 have e1:Zy m p=if(QR p m.ms [] 0).1≠0 then((QR p m.ms [] 0).1,⟨[],0,0,0⟩)
  else if(qT m p).2≠0 then((qT m p).2,⟨[],0,0,0⟩)
  else(0,⟨(QR p m.ms [] 0).2.1,(QR p m.ms [] 0).2.2,wr (zgR (QR p m.ms [] 0).2.1+(QR p m.ms [] 0).2.2),(qT m p).1⟩):=by
  unfold Zy;rw[zuV (by simp[c1]),zuV (by simp[c2])]
 simp[hi,li];refine Lp.genU (σ:=XV×List It×Int) m.ms.length (fun k _=>[(33,fi k)]) (fun _ s=>g++[.own 0 34 4 [.v .nils,xi 0,xi 0,xi 0],.own 0 34 4 [s.1,xi s.2.2,xi 0,xi 0]]) (fun k s=>(s.2.1=[]∧s.1= .v .nils∨s.1=zaP s.2.1)∧s.2.1.length≤20*k∧QR p m.ms [] 0=QR p (m.ms.drop k) s.2.1 s.2.2) (.v .nils,[],0) (by decide) rfl (by simp) (by simp) ⟨.inl ⟨rfl,rfl⟩,by simp,rfl⟩ ?_ ?_
 ·rintro q hq ⟨v,it,d⟩ ⟨hv,hil,hr⟩ hlt N hN;simp only at hv hil hr hN⊢;obtain⟨p1,cs1,o1,b1,b2,b3,b4,b5,_⟩:=(RdX.sl jB hl).atJ jB (by decide) hq;have hE:=he _ (zvi hq);have hEL:=hL.e _ (zvi hq);have hvl:∀n,lvV n v:=fun n=>by
   rcases hv with⟨_,h2⟩|h1
   ·rw[h2];simp
   ·rw[h1];simp
  rw[zvt hq,QR] at hr;generalize m.ms[q]=x at *;simp[l10_0,hq,b1,b2,b3,b4,b5,jq];refine zb.go0 (Y4 hE.app hEL p hp) ?_;rcases hpv:qR x.2 p with _|pr
  ·rw[hpv] at hr;simp[zfd,zC,pC,zP,zi,zD,yB hq (by omega)];exact zjB (fun fr g'=>hN (v,it,d) fr g' ⟨hv,by simp only;omega,hr⟩) rfl rfl (by simp) (by simpa using hlt) (by simp[lvO]) (by simp[lvO,hvl])
  ·rw[hpv] at hr;simp only at hr;obtain⟨cc,hcc,hcp⟩:=QG hpv;have hpl:=(hEL.cs cc hcc).2.1;rw[hcp] at hpl;simp[zfd,zC,pC,zP,zi,zD];refine zy 4 [8] (fun _=>False) (by decide) (by decide) ?_;simp only[zu8,zvE,zvj,zve];simp;refine zb.go0 (zjH hpl) ?_;simp;have hil2:(ql pr).length≤1000:=by simp[ql,Ja]
   refine zb.go0 (zlU (RdX.lst _ (ql pr)) hil2 x.2.fx) ?_;have hcl:=zlD (ql pr) x.2.fx;generalize jK (ql pr) x.2.fx=cv at *;obtain⟨er,its,df⟩:=cv;simp;refine zc (fun c3=> ?_) (fun c3=> ?_)
   ·simp at c3;simp;rw[zuT (by simpa using c3)] at hr;exact bad _ er (by rw[e1,hr,zuT (by simpa using c3)])
   simp at c3;rw[zuV (by simpa using c3)] at hr;simp only at hr hcl;simp;refine zy 6 [6] (fun _=>False) (by decide) (by decide) ?_;simp only[zu8,zvE,zvj,zve];simp;have hrd:∀G:XH,RdX G 43 2 y6 v it:=fun G=>by
    rcases hv with⟨h1,h2⟩|h1
    ·exact .inl ⟨h1,.inl h2⟩
    ·rw[h1];exact RdX.lst G it
   refine zb.go0 (fxAdd (hrd _) (RdX.lst _ its) (by omega) (by omega)) ?_;simp[yB hq (by omega)];have hal:=zm4 it its;exact zjB (fun fr g'=>hN (zaP (zek it its),zek it its,wr (d+df)) fr g' ⟨.inr rfl,by simp only;omega,hr⟩) rfl (by simp) (by simp) (by simpa using hlt) (by simp[lvO]) (by simp[lvO])
 ·rintro⟨v,it,d⟩ ⟨hv,hil,hr⟩;simp only at hv hil hr⊢;rw[List.drop_of_length_le (zuQ _),QR] at hr;have hrd:∀G:XH,RdX G 43 2 y6 v it:=fun G=>by
   rcases hv with⟨h1,h2⟩|h1
   ·exact .inl ⟨h1,.inl h2⟩
   ·rw[h1];exact RdX.lst G it
  rw[hr] at e1;simp only[ne_eq,not_true_eq_false,if_false] at e1;simp[l10_0];refine zb.go0 (znH hP.app hL p) ?_;generalize qT m p=as at *;obtain⟨an,ae⟩:=as;simp;refine zc (fun c3=> ?_) (fun c3=> ?_)
  ·simp at c3;simp;exact bad _ ae (by rw[e1,zuT (by simpa using c3)])
  simp at c3;rw[zuV (by simpa using c3)] at e1;simp;refine zy 5 [6] (fun _=>False) (by decide) (by decide) ?_;simp only[zu8,zvE,zvj,zve];simp;refine zb.go0 (zif (hrd _) (by omega)) ?_;simp;refine Gh.pure (.t2 (.agg (.cons ?_ (.cons (.lt (lx _)) (.cons (.lt (lx _)) (.cons (.lt (lx _)) .nil))))) .i) (hΨ _ _ ⟨by rw[e1];rfl,rfl⟩);rcases hv with⟨h1,h2⟩|h1
  ·rw[h1,h2];exact .nil
  ·rw[h1];exact .lt (by simp)
abbrev gcG(g:XH)(t:List Rw)(js:List Jo)(c:List Pa)(w1 w2 w k:Nat)(cs:List XV):XH:=g++[.own w1 140 4 (t.flatMap yT),.own 0 145 1 [.sl g.length w1 0 t.length],.own w2 184 6 (js.flatMap jd),.own 0 175 1 [.sl (g.length+2) w2 0 js.length],.own 0 177 1 [zbw c],.own 0 66 4 [.sl (g.length+6) w 0 k,.ptr (g.length+1) 0 0,.ptr (g.length+3) 0 0,.ptr (g.length+4) 0 0],.own w 69 5 cs]
theorem Cl.lvq{W:Nat→Prop}{f:Nat}{args:List XF}{g:XH}{Ψ:XF→XH→Prop}(w:Cl C W f args g Ψ):Cl C W f args g fun u g'=>Ψ u g'∧∀(i:Nat) (o:XO),g'[i]? =some o→lvO g'.length o:=by rintro R args1 rfl H ra;refine(w R args1 rfl H ra).mono ?_;rintro u1 h1 ⟨R',u,rfl,a2,a3,a4,a5⟩;exact⟨R',u,rfl,a2,a3,a4,a5,fun i o e=>(a2.ob i o e).lt⟩
theorem zdI{n:Nat}:∀{l:List XV},zr n l↔∀v∈l,lvV n v
 |[]=>by simp[zr]
 |a::r=>by simp[zr,zdI (l:=r)]
structure GcP(g:XH)(l:List (Eo×Ent))(k:Nat)(X:XH)(ns:List (Eo×Ent)):Prop where
 e:ns.map (·.2)=(l.take k).map (·.2)
 p:∀x∈ns,(∀j∈x.1.ids,g.length+7≤j)∧∀L:XH,L.length=g.length+7→EntP (L++X) x.1 x.2
 nd:(ns.flatMap fun x=>x.1.ids).Nodup
theorem znI{g:XH}{o:Gi}{m:Gm}(h:GrpP g o m)(hL:GrpL m):Cl C (fun _=>False) 14 [.s (.ptr o.i 0 0)] g fun u g'=>∃o' J ns,(∀i∈o'.ids++(ns.flatMap fun x=>x.1.ids),g.length≤i)∧u= .s (.ptr o'.i 0 0)∧g'=g++J∧ns.map (·.2)=m.ms.map (·.2)∧GrpP g' o' {m with ms:=ns}:=by
 have hP:=h;obtain⟨nd,⟨w,hi,hl⟩,ht,hs,hc,he⟩:=h;have li:=zd hi;have ll:=zd hl;have hn:=hL.n;have htl:=hL.t;have hcl:=hL.c;refine Cl.ip rfl (zuJ rfl) fun Ψ hΨ=> ?_;simp;refine zy 14 [0] (fun _=>False) (by decide) (by decide) ?_;simp only[zu8,zvE,zvj,zve];simp[hi,li];refine zb.go (zoY ht (by omega)) (fun _ _ h=>h.elim) ?_;rintro u g' ⟨rfl,w1,rfl⟩;simp[hi,li];refine zb.go (zoS hs.app hL.s) (fun _ _ h=>h.elim) ?_;rintro u g' ⟨rfl,w2,rfl⟩;simp[hi,li];refine zb.go (znl hc.app (by omega)) (fun _ _ h=>h.elim) ?_;rintro u g' ⟨rfl,rfl⟩;simp[hi,li];refine Lp.ghostAt 69 5 (n0:=g.length+6) (i:=g.length+5) (w:=0) (T:=66) (Z:=4) (cs:=[.v .nils,.ptr (g.length+1) 0 0,.ptr (g.length+2+1) 0 0,.ptr (g.length+4) 0 0]) (by simp) (by simp) (.inl (by omega)) (.cons (.gh (j:=0) rfl rfl) (.cons (.lt (by simp)) (.cons (.lt (by simp)) (.cons (.lt (by simp)) .nil)))) ?_;simp;refine Lp.genU (σ:=Nat×XH×List (Eo×Ent)) m.ms.length (fun k _=>[(28,fi k)]) (fun k s=>gcG g m.t m.js m.c w1 w2 s.1 k (s.2.2.flatMap jq)++s.2.1) (fun k s=>GcP g m.ms k s.2.1 s.2.2) (0,[],[]) (by decide) rfl (by simp) (by simp) ⟨rfl,fun x hx=>by simp at hx,.nil⟩ ?_ ?_
 ·rintro q hq ⟨w4,X,ns⟩ hg hlt N hN;simp only at hg hN⊢;obtain⟨p1,cs1,o1,b1,b2,b3,b4,b5,_⟩:=(RdX.sl jB hl).atJ jB (by decide) hq;have hE:=he _ (zvi hq);have hEL:=hL.e _ (zvi hq);have e1:m.ms.take (q+1)=m.ms.take q++[m.ms[q]]:=zu3 hq;have hnl:ns.length=q:=by
   have:=congrArg List.length hg.e;simp at this;omega
  have hfl:(ns.flatMap jq).length=q*5:=by rw[zf jB,hnl]
  have hlv:∀n,(gcG g m.t m.js m.c w1 w2 w4 q (ns.flatMap jq)++X).length≤n→zr n (ns.flatMap jq):=fun n hn=>by rw[zdI];intro v hv;rw[zvr] at hv;obtain⟨x,hx,hv⟩:=hv;have:=zkq ((hg.p x hx).2 (gcG g m.t m.js m.c w1 w2 w4 q (ns.flatMap jq)) (by simp)) hn;exact(zdI.1 this) v hv
  have hset:∀A B,((gcG g m.t m.js m.c w1 w2 w4 q (ns.flatMap jq)++X).set (g.length+6) A).set (g.length+5) B=g++[.own w1 140 4 (m.t.flatMap yT),.own 0 145 1 [.sl g.length w1 0 m.t.length],.own w2 184 6 (m.js.flatMap jd),.own 0 175 1 [.sl (g.length+2) w2 0 m.js.length],.own 0 177 1 [zbw m.c],B,A]++X:=fun A B=>by simp
  generalize m.ms[q]=x at *;have hH5:(gcG g m.t m.js m.c w1 w2 w4 q (ns.flatMap jq)++X)[g.length+5]? =some (.own 0 66 4 [.sl (g.length+6) w4 0 q,.ptr (g.length+1) 0 0,.ptr (g.length+3) 0 0,.ptr (g.length+4) 0 0]):=by simp
  have hH6:(gcG g m.t m.js m.c w1 w2 w4 q (ns.flatMap jq)++X)[g.length+6]? =some (.own w4 69 5 (ns.flatMap jq)):=by simp
  have hHl:(gcG g m.t m.js m.c w1 w2 w4 q (ns.flatMap jq)++X).length=g.length+7+X.length:=by simp;omega
  have c3:∀J,jM (gcG g m.t m.js m.c w1 w2 w4 q (ns.flatMap jq)++X++J) 69 5 (q:Int) (.s (.sl o.l w 0 m.ms.length))=some p1∧rdX (gcG g m.t m.js m.c w1 w2 w4 q (ns.flatMap jq)++X++J) (.s p1)=some (cs1,o1):=fun J=>by have:=b3 ([.own w1 140 4 (m.t.flatMap yT),.own 0 145 1 [.sl g.length w1 0 m.t.length],.own w2 184 6 (m.js.flatMap jd),.own 0 175 1 [.sl (g.length+2) w2 0 m.js.length],.own 0 177 1 [zbw m.c],.own 0 66 4 [.sl (g.length+6) w4 0 q,.ptr (g.length+1) 0 0,.ptr (g.length+3) 0 0,.ptr (g.length+4) 0 0],.own w4 69 5 (ns.flatMap jq)]++(X++J));simpa only[gcG,zu9] using this
  obtain⟨c1,c2⟩:=c3 [];rw[zvl] at c1 c2;have hHE:EntP (gcG g m.t m.js m.c w1 w2 w4 q (ns.flatMap jq)++X) x.1 x.2:=hE.app.app;have l5:=zd hH5;have l6:=zd hH6;generalize hH:gcG g m.t m.js m.c w1 w2 w4 q (ns.flatMap jq)++X=H0 at *;clear b1 b2 b3;simp[l14_0,hq,c1,c2,c3,b4,b5,jq];refine⟨by omega,?_⟩;refine zb.go (Cl.lvq (zhh hHE.app hEL)) (fun _ _ h=>h.elim) ?_;rintro u g' ⟨⟨o',J,k1,rfl,rfl,k2⟩,k3⟩;have n56:¬g.length+5=g.length+6:=by omega
  have n65:¬g.length+6=g.length+5:=by omega
  simp[hH5,hH6,l5,l6,n56,n65,hfl,show(q+1)*56≤140737488355328 by omega,yB hq (by omega)];refine⟨by omega,?_⟩;have hk1:∀j∈o'.ids,H0.length+1≤j:=fun j hj=>by simpa using k1 j hj
  have hoi:=k2.lt o'.i (by simp[Eo.ids]);simp at hoi;have hnil:∀y∈ns,∀j∈y.1.ids,j<H0.length:=fun y hy j hj=>by have:=((hg.p y hy).2 (List.replicate (g.length+7) (.own 0 0 0 [])) (by simp)).lt j hj;simp at this;omega
  have hG:gcG g m.t m.js m.c w1 w2 (w4+1) (q+1) ((ns++[(o',x.2)]).flatMap jq)++(X++ .own 0 69 5 [xs x.2.id,xs x.2.j,xi x.2.fx,xi x.2.first,.ptr o'.i 0 0]::J)=(H0.set (g.length+6) (.own (w4+1) 69 5 (ns.flatMap jq++[xs x.2.id,xs x.2.j,xi x.2.fx,xi x.2.first,.ptr o'.i 0 0]))).set (g.length+5) (.own 0 66 4 [.sl (g.length+6) (w4+1) 0 (q+1),.ptr (g.length+1) 0 0,.ptr (g.length+3) 0 0,.ptr (g.length+4) 0 0])++(.own 0 69 5 [xs x.2.id,xs x.2.j,xi x.2.fx,xi x.2.first,.ptr o'.i 0 0]::J):=by rw[hset];simp[jq]
  refine hN (w4+1,X++ .own 0 69 5 [xs x.2.id,xs x.2.j,xi x.2.fx,xi x.2.first,.ptr o'.i 0 0]::J,ns++[(o',x.2)]) _ _ ⟨?_,?_,?_⟩ ?_
  ·rw[e1,zvs,zvs,hg.e];rfl
  ·intro y hy;rw[zuX,zvm] at hy;rcases hy with hy|rfl
   ·refine⟨(hg.p y hy).1,fun L hL=> ?_⟩;rw[←zu9];exact((hg.p y hy).2 L hL).app
   ·refine⟨fun j hj=>by have:=hk1 j hj;omega,fun L hL=>k2.same fun j hj=> ?_⟩;have h1:=hk1 j hj;rw[←zu9,List.append_cons,zuP (by simp;omega),zuP (by simp;omega)];congr 1;simp;omega
  ·rw[zvq,zvH];refine⟨hg.nd,by simpa using k2.nd,fun a ha b hb e=> ?_⟩;rw[zvr] at ha;obtain⟨y,hy,ha⟩:=ha;have h1:=hnil y hy a ha;have h2:=hk1 b (by simpa using hb);omega
  ·simp only;rw[hG];refine⟨by simp,⟨[_],by simp;rfl⟩,by simp,by simp;omega,?_⟩;intro i y hi' hy;simp at hi';by_cases h5:i=g.length+5
   ·subst h5;rw[zuO (by simp;omega),zu2 (by simp;omega)] at hy;cases hy;exact .inr (by simp[lvO];omega)
   by_cases h6:i=g.length+6
   ·subst h6;rw[zuO (by simp;omega),zuU n56,zu2 (by omega)] at hy;cases hy;exact .inr (by simp[lvO,hlv];omega)
   by_cases h7:i=H0.length
   ·subst h7;rw[zuP (by simp)] at hy;simp at hy;subst hy;exact .inr (by simp[lvO];omega)
   ·have:=k3 i y (by
     rw[←hy];by_cases h8:i<H0.length
     ·rw[zu9,zuO h8,zuO (by simp;omega),zuU (fun e=>h5 e.symm),zuU (fun e=>h6 e.symm)]
     ·rw[List.append_cons (bs:=J),zuP (by simp;omega),zuP (by simp;omega)];congr 1;simp)
    refine .inr ?_;simpa[zwg,zxS 1] using this
 ·rintro⟨w4,X,ns⟩ hg;simp only at hg⊢;have hge:=hg.e;rw[zvd] at hge;have hnl:ns.length=m.ms.length:=by
   have:=congrArg List.length hge;simpa using this
  rw[←hnl];simp[l14_0,hnl];refine Gh.here (hΨ _ _ ⟨⟨g.length+5,g.length+6,g.length+1,g.length,g.length+3,g.length+2,g.length+4⟩,_,ns,?_,rfl,rfl,hge,⟨?_,⟨w4,by simp[hnl],by simp⟩,⟨w1,by simp,by simp⟩,⟨w2,by simp,by simp⟩,by simp[QM],fun x hx=> ?_⟩⟩)
  ·intro i hi';rw[zuX] at hi';rcases hi' with hi'|hi'
   ·simp[Gi.ids] at hi';omega
   ·rw[zvr] at hi';obtain⟨x,hx,hi'⟩:=hi';have:=(hg.p x hx).1 i hi';omega
  ·rw[zvH];refine⟨by simp[Gi.ids],hg.nd,fun a ha b hb e=> ?_⟩;rw[Gm.ids,zvr] at hb;obtain⟨x,hx,hb⟩:=hb;have:=(hg.p x hx).1 b hb;simp[Gi.ids] at ha;omega
  ·have:=(hg.p x hx).2 (gcG g m.t m.js m.c w1 w2 w4 m.ms.length (ns.flatMap jq)) (by simp);simpa using this
def unB(a b:Bu):Prop:=¬(a.c=b.c∧a.y=b.y)
theorem Qr:∀{l:List Bu},l.Pairwise unB→jF ltB l=true
 |[],_=>rfl
 |x::l,h=>by obtain⟨h1,h2⟩:=zvh.1 h;simp only[jF,zuS,zva];refine⟨fun y hy=> ?_,Qr h2⟩;have:=h1 y hy;unfold unB at this;simp only[ltB,zvT,zuS,zuZ,zwi];omega
theorem Yl(b:Bu)(l:List Bu):yH (b::l)=b.n+yH l:=by simp[yH]
theorem yQ{c y:Int}{b:Bu}:jH c y b=true↔b.c=c∧b.y=y:=by simp[jH]
theorem je(b:Bu)(l:List Bu)(c y:Int):getD (b::l) c y=if jH c y b then b.n else getD l c y:=by unfold getD;rw[zxu];cases jH c y b<;>rfl
theorem zh8(c y n:Int):∀(l:List Bu),yH (jV c y n l)=yH l-getD l c y+n
 |[]=>by
  by_cases h:n=0<;>simp[jV,yH,getD,h]
 |b::l=>by
  have ih:=zh8 c y n l;rw[jV,je];split
  ·simp only[Yl];omega
  ·simp only[Yl,ih];omega
theorem zd2(c y n:Int):∀(l:List Bu) (b:Bu),b∈jV c y n l→b∈l∨b=⟨c,y,n⟩
 |[],b,h=>by simp[jV] at h;exact .inr h.2
 |x::l,b,h=>by
  rw[jV] at h;split at h
  ·rename_i hk;rw[zu4] at h;rcases h with h|h
   ·exact .inr (by rw[h];simp[jH] at hk;simp[hk])
   ·exact .inl (zvO _ h)
  ·rw[zu4] at h;rcases h with h|h
   ·exact .inl (h▸zv2)
   ·exact(zd2 c y n l b h).imp (zvO _) id
theorem zgB(c y n:Int):∀{l:List Bu},l.Pairwise unB→(jV c y n l).Pairwise unB
 |[],_=>by by_cases h:n=0<;>simp[jV,h]
 |x::l,h=>by
  obtain⟨h1,h2⟩:=zvh.1 h;rw[jV];split
  ·exact zvh.2 ⟨fun b hb=>h1 b hb,h2⟩
  ·rename_i hk;refine zvh.2 ⟨fun b hb=> ?_,zgB c y n h2⟩;rcases zd2 c y n l b hb with hb|rfl
   ·exact h1 b hb
   ·rintro⟨e1,e2⟩;exact hk (yQ.2 ⟨e1,e2⟩)
theorem zdj:∀(l:List Bu),yH (l.filter fun b=> !(b.n==0))=yH l
 |[]=>rfl
 |b::l=>by
  rw[zwK];split
  ·simp only[Yl,zdj l]
  ·rename_i h;simp at h;simp only[Yl,zdj l,h];omega
theorem zea(l:List Bu)(c y n:Int):yH (jE l c y n)=yH l-getD l c y+n:=by unfold jE;rw[zdj,zh8]
theorem zd9{l:List Bu}{c y n:Int}{b:Bu}(h:b∈jE l c y n):b∈l∨b=⟨c,y,n⟩:=zd2 c y n l b (zvQ.1 h).1
theorem za4{l:List Bu}(h:l.Pairwise unB)(c y n:Int):(jE l c y n).Pairwise unB:=(zgB c y n h).sublist zwm
theorem zb3{c y c2 y2 n:Int}(hne:¬(c=c2∧y=y2)):∀(l:List Bu),getD (jV c y n l) c2 y2=getD l c2 y2
 |[]=>by
  rw[jV];split
  ·rw[je,zuV];rw[yQ];exact hne
  ·rfl
 |b::l=>by
  rw[jV];split
  ·rename_i hk;have hk:=yQ.1 hk;rw[je,je,zuV,zuV]
   ·rw[yQ];omega
   ·rw[yQ];simp only;omega
  ·rw[je,je,zb3 hne l]
theorem zbr(c y:Int):∀{l:List Bu},l.Pairwise unB→getD (l.filter fun b=> !(b.n==0)) c y=getD l c y
 |[],_=>rfl
 |b::l,h=>by
  obtain⟨h1,h2⟩:=zvh.1 h;rw[zwK];split
  ·rw[je,je,zbr c y h2]
  ·rename_i hb;simp at hb;rw[je,zbr c y h2];split
   ·rename_i hk;have hk:=yQ.1 hk;rw[hb];unfold getD;rw[zwH.2];intro x hx;have:=h1 x hx;rw[yQ];rintro⟨e1,e2⟩;exact this ⟨by omega,by omega⟩
   ·rfl
theorem Zm{c y c2 y2 n:Int}{l:List Bu}(h:l.Pairwise unB)(hne:¬(c=c2∧y=y2)):getD (jE l c y n) c2 y2=getD l c2 y2:=by unfold jE;rw[zbr c2 y2 (zgB c y n h),zb3 hne]
def zcO(l:List Bu):Prop:=Q2 l∧l.Pairwise unB
theorem zcO.move{l:List Bu}(h:zcO l)(c y n:Int):zcO (jv l c y n).2:=by
 obtain⟨⟨h1,h2,h3⟩,h4⟩:=h;unfold jv;split
 ·exact⟨⟨h1,h2,h3⟩,h4⟩
 split
 ·exact⟨⟨h1,h2,h3⟩,h4⟩
 rename_i k2;split
 ·exact⟨⟨h1,h2,h3⟩,h4⟩
 rename_i k3;simp only[not_or,zx1,ne_eq,Decidable.not_not,Bool.not_eq_false] at k2;refine⟨⟨by simp only;omega,fun b hb=> ?_,?_⟩,za4 h4 _ _ _⟩
 ·rcases zd9 hb with hb|rfl
  ·exact h2 b hb
  ·exact k2.1
 ·show za (yH (jE l c y (getD l c y+n)))=true;rw[zea,show yH l-getD l c y+(getD l c y+n)=yH l+n by omega];exact k2.2
theorem zcO.reclass{l:List Bu}(h:zcO l)(c y c2 y2 n:Int):zcO (z7 l c y c2 y2 n).2:=by
 obtain⟨⟨h1,h2,h3⟩,h4⟩:=h;unfold z7;split
 ·exact⟨⟨h1,h2,h3⟩,h4⟩
 rename_i k1;split
 ·exact⟨⟨h1,h2,h3⟩,h4⟩
 rename_i k2;split
 ·exact⟨⟨h1,h2,h3⟩,h4⟩
 rename_i k3;simp only[not_or,zx1,ne_eq,Decidable.not_not,Bool.not_eq_false] at k1 k2;have hne:¬(c=c2∧y=y2):=k1.2.2.2;refine⟨⟨by simp only;omega,fun b hb=> ?_,?_⟩,za4 (za4 h4 _ _ _) _ _ _⟩
 ·rcases zd9 hb with hb|rfl
  ·rcases zd9 hb with hb|rfl
   ·exact h2 b hb
   ·exact k2.1
  ·exact k2.2
 ·show za (yH (jE (jE l c y (getD l c y-n)) c2 y2 (getD l c2 y2+n)))=true;rw[zea,zea,Zm h4 hne,show yH l-getD l c y+(getD l c y-n)-getD l c2 y2+(getD l c2 y2+n)=yH l by omega];exact h3
def zf3(l:List Int)(f:Int)(n:Nat):Prop:=l.Nodup∧∀p∈l,f≤p∧p<f+(n:Int)
theorem zdg(f:Int):∀(n:Nat) {l:List Int},zf3 l f n→l.length≤n
 |0,[],_=>zuQ _
 |0,x::l,h=>by have:=h.2 x (by simp);omega
 |n+1,l,h=>by
  have h2:zf3 (l.erase (f+(n:Int))) f n:=by refine⟨h.1.erase _,fun p hp=> ?_⟩;have hm:=(h.1.mem_erase_iff).1 hp;have:=h.2 p hm.2;have:=hm.1;omega
  have h3:=zdg f n h2;by_cases hm:f+(n:Int)∈l
  ·rw[List.length_erase_of_mem hm] at h3;omega
  ·rw[List.erase_of_not_mem hm] at h3;omega
theorem zf3.mono{l:List Int}{f:Int}{n k:Nat}(h:zf3 l f n)(hk:n≤k):zf3 l f k:=⟨h.1,fun p hp=>by have:=h.2 p hp;omega⟩
structure EntV(e:Ent):Prop where
 p:zl e.first=true
 hi:e.touched.length≤401
 lo:LosI e.s.l
 reg:zcO e.s.reg
 fl:zf3 e.s.filed e.first e.cs.length
 cl:e.cs.length+1=e.touched.length
 cs:∀c∈e.cs,ProC c.p∧ProL c.p∧LosI c.was.l∧za c.p.cur.tax=true
 cf:∀(k:Nat) (h:k<e.cs.length),zf3 e.cs[k].was.filed e.first k
theorem EntV.l{e:Ent}(h:EntV e):EntL e:=by have hh:=h.hi;have hc:=h.cl;have hf:=zdg _ _ h.fl;have hr:=h.reg.1.1;refine⟨⟨h.p,by omega,by omega⟩,h.lo,h.reg.1,by omega,Qr h.reg.2,by omega,h.cl,fun c hm=> ?_⟩;obtain⟨k,hk,rfl⟩:=zw1 hm;obtain⟨a1,a2,a3,a4⟩:=h.cs _ hm;have:=zdg _ _ (h.cf k hk);exact⟨a1,a2,a3,by omega,a4⟩
theorem zoc{id j:ByteArray}{fx most life first:Int}(h:zl first=true):EntV (ja id j fx most life first):=by refine⟨h,by simp[ja],⟨by simp[ja],fun v hv=>by simp[ja] at hv,by simp[ja,zA,za],rfl⟩,⟨⟨by simp[ja],fun b hb=>by simp[ja] at hb,by simp[ja,yH,za]⟩,.nil⟩,⟨.nil,fun p hp=>by simp[ja] at hp⟩,rfl,fun c hc=>by simp[ja] at hc,fun k hk=>by simp[ja] at hk⟩
theorem EntV.enter{e:Ent}(h:EntV e){d:Int×Sta}(h1:LosI d.2.l)(h2:zcO d.2.reg)(h3:zf3 d.2.filed e.first e.cs.length):EntV (zz e d).2:=by
 unfold zz;split
 ·exact h
 split
 ·exact⟨h.p,by simpa using h.hi,h1,h2,h3,by simpa using h.cl,h.cs,h.cf⟩
 ·exact⟨h.p,h.hi,h1,h2,h3,h.cl,h.cs,h.cf⟩
theorem EntV.file{e:Ent}(h:EntV e)(p n:Int):EntV (zz e (jC e p n)).2:=by
 have key:LosI (jC e p n).2.l∧zcO (jC e p n).2.reg∧zf3 (jC e p n).2.filed e.first e.cs.length:=by
  unfold jC;split
  ·exact⟨h.lo,h.reg,h.fl⟩
  ·rename_i q hq;split
   ·exact⟨h.lo,h.reg,h.fl⟩
   rename_i hc;split
   ·exact⟨h.lo,h.reg,h.fl⟩
   split
   ·exact⟨h.lo,h.reg,h.fl⟩
   refine⟨h.lo,h.reg,?_,fun x hx=> ?_⟩
   ·refine zvH.2 ⟨h.fl.1,by simp,fun a ha b hb e=> ?_⟩;rw[zvm] at hb;subst hb;subst e;simp[ha] at hc
   ·simp only[zuX,zvm] at hx;rcases hx with hx|rfl
    ·exact h.fl.2 x hx
    ·unfold qR at hq;split at hq
     ·simp at hq
     ·rename_i hlt;rw[zuM] at hq;obtain⟨c,h1,_⟩:=hq;have:=(zuN.1 h1).1;omega
 exact h.enter key.1 key.2.1 key.2.2
theorem EntV.close{e:Ent}(h:EntV e)(t:List Rw)(js:List Jo):EntV (yr t js e).2.1:=by
 have hL:=h.l;unfold yr;split
 ·exact h
 rename_i hp;simp only;have hok:=zdJ t ⟨e.j,yt e.first e.touched,e.s.book,e.s.perm,e.s.judge,e.s.cap,e.s.life,e.s.up⟩ (zcF hL) h.lo (rows:=zu ltB e.s.reg) (by rw[zJ];exact hL.rl);generalize ju t ⟨e.j,yt e.first e.touched,e.s.book,e.s.perm,e.s.judge,e.s.cap,e.s.life,e.s.up⟩ (qE e) e.s.l (zu ltB e.s.reg)=m at *;split
 ·exact h
 rename_i h0;obtain⟨⟨k1,k2,k3⟩,_,k4⟩:=hok (by simpa using h0);split
 ·exact h
 simp only[Decidable.not_not] at hp;have hpp:=hp;simp[zl,yt] at hpp;have hf:=h.p;simp[zl] at hf;have hcl:=h.cl;refine⟨h.p,by simp only[zuR,zuW];omega,k4,h.reg,?_,by simp only[zuR,zuW];omega,fun c hc=> ?_,fun k hk=> ?_⟩
 ·exact h.fl.mono (by simp)
 ·simp only[zuX,zvm] at hc;rcases hc with hc|rfl
  ·exact h.cs c hc
  ·exact⟨k1,k2,h.lo,k3⟩
 ·simp only[zuR,zuW] at hk;by_cases hkl:k<e.cs.length
  ·simp only[zwI hkl];exact h.cf k hkl
  ·obtain rfl:k=e.cs.length:=by omega
   simp;exact h.fl
theorem EntV.reop{e:Ent}(h:EntV e)(js:List Jo):EntV (yP js e).2.1:=by
 unfold yP;split
 ·exact h
 rename_i h0;split
 ·exact h
 rename_i c hc;simp only;split
 ·exact h
 obtain⟨ys,hys⟩:=zxl.1 hc;have hcl:=h.cl;have hdl:e.cs.dropLast=ys:=by rw[hys,zxi]
 have hyl:e.cs.length=ys.length+1:=by rw[hys];simp
 have hcm:c∈e.cs:=by rw[hys];simp
 have ht:(Yk e.touched).2.length=e.touched.length-1:=by
  simp only[ne_eq,Decidable.not_not] at h0;unfold Yk at h0⊢;split at h0
  ·simp at h0
  ·split at h0
   ·simp at h0
   ·rename_i a b;rw[zuV a,zuV b,zu6];omega
 refine⟨h.p,by simp only[ht];have:=h.hi;omega,(h.cs c hcm).2.2.1,h.reg,?_,by simp only[ht,hdl];omega,fun x hx=> ?_,fun k hk=> ?_⟩
 ·simp only[hdl];have:=h.cf ys.length (by omega);simp only[hys] at this;simpa using this
 ·simp only[hdl] at hx;exact h.cs x (by rw[hys];exact zvk _ hx)
 ·simp only[hdl] at hk⊢;have:=h.cf k (by omega);simp only[hys,zwI hk] at this;exact this
theorem EntV.tell{e:Ent}(h:EntV e)(t:List Rw)(js:List Jo)(c:Cmd):EntV (yk t js e c).2.1:=by
 unfold yk;split
 ·exact h.enter h.lo h.reg h.fl
 split
 ·exact h.enter h.lo h.reg h.fl
 split
 ·exact h.enter h.lo (h.reg.move _ _ _) h.fl
 split
 ·exact h.enter h.lo (h.reg.reclass _ _ _ _ _) h.fl
 split
 ·refine h.enter ?_ ?_ ?_<;>(unfold zbu;split<;>first|exact h.lo|exact h.reg|exact h.fl)
 split
 ·refine h.enter ?_ ?_ ?_<;>(unfold zbg;split<;>first|exact h.lo|exact h.reg|exact h.fl)
 split
 ·exact h.file _ _
 split
 ·exact h.close _ _
 ·exact h.reop _
theorem zcI{js:List Jo}(h:StoL js)(id:ByteArray)(p kind of:Int)(ls:List Li):StoL (y9 js id p kind of ls).2.2:=by
 unfold y9;split
 ·exact h
 split
 ·exact h
 rename_i h1;split
 ·exact h
 rename_i h2;split
 ·exact h
 refine⟨by simp only[zuR,zuW];omega,fun j hj=> ?_⟩;simp only[zuX,zvm] at hj;rcases hj with hj|rfl
 ·exact h.l j hj
 ·exact Q6 (zdE (by simpa using h1))
theorem zrD{js:List Jo}(h:StoL js)(t:List Rw)(e:Ent)(c:Cmd):StoL (yk t js e c).2.2:=by
 unfold yk
 repeat' split
 all_goals try exact h
 ·unfold yr;split
  ·exact h
  simp only;split
  ·exact h
  split
  ·exact zcI h _ _ _ _ _
  ·exact zcI h _ _ _ _ _
 ·unfold yP;split
  ·exact h
  split
  ·exact h
  simp only;split
  ·exact zcI h _ _ _ _ _
  ·exact zcI h _ _ _ _ _
theorem zlE{c:List Pa}(hl:c.length≤100)(hu:c.Pairwise unP)(s b:ByteArray)(n:Int):(j0 c s b n).2.length≤100∧(j0 c s b n).2.Pairwise unP:=by
 unfold j0;split
 ·exact⟨hl,hu⟩
 simp only;split
 ·exact⟨hl,hu⟩
 split
 ·exact⟨hl,hu⟩
 ·rename_i h;refine⟨by simp only[zJ];omega,?_⟩;exact((yx ltP (jO c s b (wr (Yh c s b+n)))).pairwise_iff (fun{x y} hxy=>fun e=>hxy ⟨e.1.symm,e.2.symm⟩)).2 (za2 hu _ _ _)
theorem zm3{t:List Rw}(h:t.length≤24)(j:ByteArray)(y r p:Int):(qy t j y r p).2.length≤24:=by
 unfold qy
 repeat' split
 all_goals first|exact h|(simp only[zuR,zuW];omega)
structure GrpV(m:Gm):Prop where
 t:m.t.length≤24
 s:StoL m.js
 n:m.ms.length≤4
 c:m.c.length≤100
 cu:m.c.Pairwise unP
 e:∀x∈m.ms,EntV x.2
theorem GrpV.l{m:Gm}(h:GrpV m):GrpL m:=⟨h.t,h.s,h.n,h.c,h.cu,fun x hx=>(h.e x hx).l⟩
theorem ztN:GrpV ⟨[],[],[],[]⟩:=⟨by simp,⟨by simp,fun j hj=>by simp at hj⟩,by simp,by simp,.nil,fun x hx=>by simp at hx⟩
theorem zjg{m:Gm}{c:Cmd}{e:Ent}(h:(ZN m c).2=some e):m.ms.length<4∧EntV e:=by
 unfold ZN at h;split at h
 ·simp at h
 split at h
 ·simp at h
 rename_i h4;split at h
 ·simp at h
 split at h
 ·rename_i hok;simp only[zuI] at h;subst h;exact⟨by omega,zoc hok.2.2.2⟩
 ·simp at h
theorem GrpV.done{m m':Gm}(h:GrpV m){k:Int}{c:Cmd}{r:Int}(hd:zaA m k c r m'):GrpV m':=by
 unfold zaA at hd;split at hd
 ·rw[hd.2];exact h
 split at hd
 ·rw[hd.2];exact⟨zm3 h.t _ _ _ _,h.s,h.n,h.c,h.cu,h.e⟩
 split at hd
 ·obtain⟨_,hd⟩:=hd;cases hq:(ZN m c).2 with
  |none=>rw[hq] at hd;rw[hd];exact h
  |some e=>
   rw[hq] at hd;obtain⟨o',rfl⟩:=hd;obtain⟨h4,hv⟩:=zjg hq;refine⟨h.t,h.s,by simp only[zuR,zuW];omega,h.c,h.cu,fun x hx=> ?_⟩;simp only[zuX,zvm] at hx;rcases hx with hx|rfl
   ·exact h.e x hx
   ·exact hv
 split at hd
 ·rw[hd.2];have:(Yc m c).2.length≤100∧(Yc m c).2.Pairwise unP:=by
   unfold Yc;split
   ·exact⟨h.c,h.cu⟩
   ·exact zlE h.c h.cu _ _ _
  exact⟨h.t,h.s,h.n,this.1,this.2,h.e⟩
 split at hd
 ·rw[hd.2];exact h
 ·rename_i x hx;obtain⟨_,a,b,o',hm,rfl⟩:=hd;have hxm:x∈m.ms:=zv0 hx;have hn:=h.n;rw[hm] at hn;refine⟨h.t,zrD h.s _ _ _,by simpa using hn,h.c,h.cu,fun y hy=> ?_⟩;simp only[zuX,zu4] at hy;rcases hy with hy|rfl|hy
  ·exact h.e y (by rw[hm];simp[hy])
  ·exact(h.e x hxm).tell _ _ _
  ·exact h.e y (by rw[hm];simp[hy])
def Sor{α:Type}(lt:α→α→Bool)(l:List α):Prop:=l.Pairwise fun a b=>lt a b=true
theorem ZM{α:Type}{lt:α→α→Bool}(tr:∀a b c,lt a b=true→lt b c=true→lt a c=true){b:α}:∀{l:List α},Sor lt l→(∀x∈l,lt b x=true∨lt x b=true)→Sor lt (ZL lt b l)
 |[],_,_=>by simp[ZL,Sor]
 |x::l,h,ht=>by
  obtain⟨h1,h2⟩:=zvh.1 h;rw[ZL];split
  ·rename_i hb;refine zvh.2 ⟨fun y hy=> ?_,h⟩;rw[zu4] at hy;rcases hy with rfl|hy
   ·exact hb
   ·exact tr _ _ _ hb (h1 y hy)
  ·rename_i hb;refine zvh.2 ⟨fun y hy=> ?_,ZM tr h2 fun y hy=>ht y (zvO _ hy)⟩;have:=(jg lt b l).mem_iff.1 hy;rw[zu4] at this;rcases this with rfl|hy
   ·exact(ht x (by simp)).resolve_left hb
   ·exact h1 y hy
theorem qY{α:Type}{lt:α→α→Bool}(tr:∀a b c,lt a b=true→lt b c=true→lt a c=true):∀{l:List α},jF lt l=true→Sor lt (zu lt l)
 |[],_=> .nil
 |x::l,h=>by simp only[jF,zuS,zva] at h;rw[zu];refine ZM tr (qY tr h.2) fun y hy=> ?_;have:=h.1 y ((yx lt l).mem_iff.1 hy);simpa[zvT] using this
theorem YT{α:Type}{lt:α→α→Bool}(as:∀a b,lt a b=true→lt b a=true→False):∀{l m:List α},l.Perm m→Sor lt l→Sor lt m→l=m
 |[],m,p,_,_=>(List.nil_perm.1 p).symm
 |x::l,[],p,_,_=>by have:=p.length_eq;simp at this
 |x::l,y::m,p,h1,h2=>by
  obtain⟨a1,a2⟩:=zvh.1 h1;obtain⟨b1,b2⟩:=zvh.1 h2;have hxy:x=y:=by
   have hx:=p.mem_iff.1 (zv2 (a:=x) (l:=l));have hy:=p.mem_iff.2 (zv2 (a:=y) (l:=m));rw[zu4] at hx hy;rcases hx with hx|hx
   ·exact hx
   rcases hy with hy|hy
   ·exact hy.symm
   exact(as _ _ (a1 y hy) (b1 x hx)).elim
  subst hxy;rw[YT as (List.perm_cons _|>.1 p) a2 b2]
theorem zgo(a b c:Bu)(h1:ltB a b=true)(h2:ltB b c=true):ltB a c=true:=by simp only[ltB,zvT,zuS,zuZ,zwi] at *;omega
theorem znZ(a b:Bu)(h1:ltB a b=true)(h2:ltB b a=true):False:=by simp only[ltB,zvT,zuS,zuZ,zwi] at *;omega
theorem zmD{l:List Bu}(h:l.Pairwise unB):l.Nodup:=h.imp fun h e=>h (by rw[e];exact⟨rfl,rfl⟩)
theorem YJ:∀{l:List Bu} {b:Bu},l.Pairwise unB→b∈l→getD l b.c b.y=b.n
 |x::l,b,h,hb=>by
  obtain⟨h1,h2⟩:=zvh.1 h;rw[je];rw[zu4] at hb;rcases hb with rfl|hb
  ·rw[zuT (yQ.2 ⟨rfl,rfl⟩)]
  ·rw[zuV,YJ h2 hb];rw[yQ];exact h1 b hb
theorem getD_none:∀{l:List Bu} {c y:Int},(∀b∈l,¬(b.c=c∧b.y=y))→getD l c y=0
 |[],_,_,_=>rfl
 |x::l,c,y,h=>by rw[je,zuV (by rw[yQ];exact h x (by simp)),getD_none fun b hb=>h b (zvO _ hb)]
theorem zlW{l m:List Bu}(h:l.Pairwise unB)(h':m.Pairwise unB)(p:l.Perm m)(c y:Int):getD l c y=getD m c y:=by
 by_cases hk:∃b∈l,b.c=c∧b.y=y
 ·obtain⟨b,hb,rfl,rfl⟩:=hk;rw[YJ h hb,YJ h' (p.mem_iff.1 hb)]
 ·have hk':∀b∈l,¬(b.c=c∧b.y=y):=fun b hb e=>hk ⟨b,hb,e⟩;rw[getD_none hk',getD_none fun b hb=>hk' b (p.mem_iff.2 hb)]
theorem zh7{c y n:Int}:∀{l:List Bu},l.Pairwise unB→∀b:Bu,b.n≠0→(b∈jV c y n l↔(b∈l∧¬(b.c=c∧b.y=y))∨b=⟨c,y,n⟩)
 |[],_,b,hb=>by
  rw[jV];split
  ·simp
  ·rename_i h;simp at h;simp;rintro rfl;exact hb h
 |x::l,h,b,hb=>by
  obtain⟨h1,h2⟩:=zvh.1 h;rw[jV];split
  ·rename_i hk;obtain⟨rfl,rfl⟩:=yQ.1 hk;simp only[zu4];constructor
   ·rintro(rfl|hm)
    ·exact .inr rfl
    ·exact .inl ⟨.inr hm,fun e=>h1 b hm ⟨e.1.symm,e.2.symm⟩⟩
   ·rintro(⟨rfl|hm,hn⟩|rfl)
    ·exact absurd ⟨rfl,rfl⟩ hn
    ·exact .inr hm
    ·exact .inl rfl
  ·rename_i hk;rw[yQ] at hk;simp only[zu4,zh7 h2 b hb];constructor
   ·rintro(rfl|⟨hm,hn⟩|rfl)
    ·exact .inl ⟨.inl rfl,hk⟩
    ·exact .inl ⟨.inr hm,hn⟩
    ·exact .inr rfl
   ·rintro(⟨rfl|hm,hn⟩|rfl)
    ·exact .inl rfl
    ·exact .inr (.inl ⟨hm,hn⟩)
    ·exact .inr (.inr rfl)
theorem zcE(b:Bu):∀l:List Bu,insB b l=ZL ltB b l
 |[]=>rfl
 |x::l=>by rw[insB,ZL,zcE b l]
theorem zgJ{l:List Bu}(h:l.Pairwise unB)(hz:∀b∈l,b.n≠0)(c y n:Int):zim (zu ltB l) c y n=zu ltB (jE l c y n):=by
 have p:=yx ltB l;have hs:=qY zgo (Qr h);have hf:Sor ltB ((zu ltB l).filter fun b=> !jH c y b):=hs.sublist zwm;have hsor:Sor ltB (zim (zu ltB l) c y n):=by
  unfold zim;simp only;split
  ·exact hf
  ·rw[zcE];refine ZM zgo hf fun x hx=> ?_;have:=(zvQ.1 hx).2;simp only[zwX,zwW,ne_eq,yQ] at this;simp only[ltB,zvT,zuS,zuZ,zwi];omega
 have hun:=za4 h c y n;refine YT znZ ?_ hsor (qY zgo (Qr hun));refine List.Perm.trans ?_ (yx ltB (jE l c y n)).symm;have hnd:(zim (zu ltB l) c y n).Nodup:=List.Pairwise.imp (R:=fun a b=>ltB a b=true) (S:=fun a b=>a≠b) (fun{a b} h (e:a=b)=>by subst e;exact znZ _ _ h h) hsor;refine(List.perm_ext_iff_of_nodup hnd (zmD hun)).2 fun b=> ?_;unfold zim jE;simp only[zvQ];by_cases hb:b.n=0
 ·simp only[hb,beq_self_eq_true,Bool.not_true,zvg,and_false,iff_false];split
  ·rw[zvQ];rintro⟨hm,_⟩;exact hz b (p.mem_iff.1 hm) hb
  ·rename_i hn;rw[zcE,(jg ltB _ _).mem_iff,zu4,zvQ];rintro(rfl|⟨hm,_⟩)
   ·exact hn hb
   ·exact hz b (p.mem_iff.1 hm) hb
 ·rw[zh7 h b hb];have hb':(!(b.n==0))=true:=by simpa using hb
  simp only[hb',and_true];split
  ·rename_i hn;rw[zvQ,p.mem_iff];simp only[zwX,zwW,ne_eq,yQ];constructor
   ·exact .inl
   ·rintro(h|rfl)
    ·exact h
    ·exact absurd hn hb
  ·rw[zcE,(jg ltB _ _).mem_iff,zu4,zvQ,p.mem_iff];simp only[zwX,zwW,ne_eq,yQ];constructor
   ·rintro(rfl|h)
    ·exact .inr rfl
    ·exact .inl h
   ·rintro(h|rfl)
    ·exact .inr h
    ·exact .inl rfl
theorem zgK{l:List Bu}{c y n:Int}:∀b∈jE l c y n,b.n≠0:=fun b hb=>by simpa using(zvQ.1 hb).2
theorem zix{l m:List Bu}(p:l.Perm m):yH l=yH m:=ziv _ p
theorem zeR{l:List Bu}(h:l.Pairwise unB)(c y:Int):getD (zu ltB l) c y=getD l c y:=by
 have p:=yx ltB l;have hu:(zu ltB l).Pairwise unB:=(qY zgo (Qr h)).imp fun{a b} hl e=>by simp only[ltB,zvT,zuS,zuZ,zwi] at hl;omega
 exact zlW hu h p c y
theorem zqZ{l:List Bu}(h:l.Pairwise unB)(hz:∀b∈l,b.n≠0)(c y n:Int):zkL (zu ltB l) c y n=((jv l c y n).1,zu ltB (jv l c y n).2):=by
 unfold zkL jv;simp only[zeR h,zix (yx ltB l),zgJ h hz,zJ]
 repeat' split
 all_goals rfl
theorem zjF{l:List Bu}(h:l.Pairwise unB)(hz:∀b∈l,b.n≠0)(c y c2 y2 n:Int):za0 (zu ltB l) c y c2 y2 n=((z7 l c y c2 y2 n).1,zu ltB (z7 l c y c2 y2 n).2):=by
 unfold za0 z7;simp only[zeR h,zgJ h hz,zgJ (za4 h _ _ _) zgK,zJ]
 repeat' split
 all_goals rfl
theorem zq0{l:List Bu}(hz:∀b∈l,b.n≠0)(c y n:Int):∀b∈(jv l c y n).2,b.n≠0:=by
 unfold jv
 repeat' split
 all_goals first|exact hz|exact zgK
theorem zjG{l:List Bu}(hz:∀b∈l,b.n≠0)(c y c2 y2 n:Int):∀b∈(z7 l c y c2 y2 n).2,b.n≠0:=by
 unfold z7
 repeat' split
 all_goals first|exact hz|exact zgK
theorem zao{s n:Int}(h:za s=true):qv s n=zfH s n:=by
 unfold qv zfH;by_cases hn:za n=true
 ·have:wr (s+n)=s+n:=Js h hn;simp only[hn,this]
 ·simp only[hn];simp
theorem zcP{s n:Int}(h:za s=true):za (zfH s n).2=true:=by
 unfold zfH;split
 ·exact h
 split
 ·exact h
 ·rename_i hc;simpa using hc
theorem zjo(a b c:Vi)(h1:ltV a b=true)(h2:ltV b c=true):ltV a c=true:=by simp only[ltV,zvT,zuS,zuZ,zwi] at *;omega
theorem zty(a b:Vi)(h1:ltV a b=true)(h2:ltV b a=true):False:=by simp only[ltV,zvT,zuS,zuZ,zwi] at *;omega
theorem zsu{a b:Vi}(h:ltV a b=true):a.e≤b.e:=by simp only[ltV,zvT,zuS,zuZ,zwi] at h;omega
theorem zgi(y:Int):∀{l:List Vi},Sor ltV l→yz y l=zb5 l y
 |[],_=>rfl
 |v::l,h=>by
  obtain⟨h1,h2⟩:=zvh.1 h;unfold yz zb5;rw[zwK];split
  ·rename_i hv;rw[zuV (by simp[hv])];exact zgi y h2
  ·rename_i hv;rw[zuT (by simpa using hv)];congr 1;refine(List.filter_eq_self.2 fun b hb=> ?_).symm;have:=zsu (h1 b hb);simp only[zwX,zvM];omega
theorem zkA(y:Int):∀{l:List Vi},Sor ltV l→qr y l=zhr l y
 |[],_=>rfl
 |v::l,h=>by
  obtain⟨h1,h2⟩:=zvh.1 h;unfold qr zhr;rw[zwK];split
  ·rename_i hv;rw[zuT (by simp[hv]),zkA y h2];simp[zA,zhr]
  ·rename_i hv;rw[zuV (by simpa using hv)];rw[List.filter_eq_nil_iff.2 fun b hb=> ?_]
   ·rfl
   have:=zsu (h1 b hb);simp only[zuZ];omega
theorem zo5(y:Int):∀(l:List Vi) (left:Int),0≤left→(∀v∈l,0≤v.n)→qa y left l=za9 l y left
 |[],_,_,_=>rfl
 |v::l,left,h,hn=>by
  have e1:qi y left v=if y≤v.e then min v.n (max left 0) else 0:=by unfold qi;rw[show max left 0=left by omega]
  have hv:=hn v (by simp);have h0:0≤left-qi y left v:=by unfold qi;split<;>omega
  rw[qa,za9];rw[←e1,zo5 y l _ h0 fun b hb=>hn b (zvO _ hb)]
theorem zge(b:Vi):∀l:List Vi,insV b l=ZL ltV b l
 |[]=>rfl
 |x::l=>by rw[insV,ZL,zge b l]
theorem zk1(o e n:Int):∀{l:List Vi},l.Pairwise zeu→QQ o e n l=l.map fun v=>if Yt o e v then{v with n:=v.n+n} else v
 |[],_=>rfl
 |x::l,h=>by
  obtain⟨h1,h2⟩:=zvh.1 h;rw[QQ,zu7];split
  ·rename_i hk;have hl:l.map (fun v=>if Yt o e v then{v with n:=v.n+n} else v)=l:=by
    refine(zvz (g:=id) fun b hb=> ?_).trans (List.map_id l);have:=h1 b hb;simp only[Yt,zuS,zwi] at hk⊢;rw[zuV]
    ·rfl
    ·exact fun e=>this ⟨by omega,by omega⟩
   rw[hl]
  ·rw[zk1 o e n h2]
theorem zkG{l:List Vi}(hs:Sor ltV l)(o e n:Int):QO l o e n=zhF l o e n:=by
 have hu:l.Pairwise zeu:=hs.imp fun{a b} h=>zby.1 (by rw[h];rfl);unfold QO zhF;by_cases c1:¬yF o=true∨e<o∨198<e∨n<1∨100000000000<n
 ·rw[zuT c1,zuT];rcases c1 with h|h|h|h|h
  ·exact .inl (by simp[ziy,h])
  ·exact .inl (by simp[ziy];omega)
  ·exact .inl (by simp[ziy];omega)
  ·exact .inr (.inl h)
  ·exact .inr (.inr (by simp[za];omega))
 ·rw[zuV c1,zuV]
  ·split
   ·rfl
   split
   ·rw[zk1 o e n hu]
   ·rename_i hk;split
    ·rfl
    ·have hd:jF ltV (l++[⟨o,e,n⟩])=true:=by
      rw[yU];refine zxI.2 ⟨hu,by simp,fun a ha b hb=> ?_⟩;rw[zvm] at hb;subst hb;rintro⟨e1,e2⟩;refine hk (zwy.2 ⟨a,ha,?_⟩);simp only[Yt,zuS,zwi];exact⟨e1,e2⟩
     congr 1;rw[zge];refine YT zty ?_ (qY zjo hd) (ZM zjo hs fun x hx=> ?_)
     ·exact((yx ltV _).trans List.perm_append_comm).trans (jg ltV _ l).symm
     ·have:zeu ⟨o,e,n⟩ x:=fun⟨e1,e2⟩=>hk (zwy.2 ⟨x,hx,by simp only[Yt,zuS,zwi];exact⟨e1.symm,e2.symm⟩⟩);simpa[zvT] using zby.2 this
  ·intro h;refine c1 ?_;by_cases hy:yF o=true
   ·simp[ziy,hy,za] at h;omega
   ·exact .inl hy
theorem zhx{l:List Vi}(h:Sor ltV l)(y:Int):Sor ltV (zb5 l y):=h.sublist zwm
theorem zbC{book perm moved:Int}:Jy book perm moved=true↔za book=true∧za perm=true∧za moved=true∧za (book+perm-moved)=true:=by
 have e:book+(perm+ -moved)=book+perm-moved:=by omega
 simp only[Jy,Jz,zwk,List.all_nil,zxf,zuS,zwu,List.sum_nil,zx7,e];have h:za (-moved)=true↔za moved=true:=by simp only[za,zuZ];omega
 rw[h];exact⟨fun⟨a,⟨b,c,_⟩,d⟩=>⟨b,c,a,d⟩,fun⟨a,b,c,d⟩=>⟨c,⟨a,b,c⟩,d⟩⟩
theorem zrn{n cap:Int}(hn:0<n)(hm:za n=true)(hc:zn cap=true):jD n cap=zjc n cap:=by unfold jD zjc;rw[zuT,zuT (by omega)];refine⟨by omega,?_⟩;simp[Zw,zn,za] at *;omega
theorem zj4{l:List Vi}(hI:LosI l)(hs:Sor ltV l)(book perm moved cap life year r:Int):(ZA l book perm moved cap life year r).1=(zcp l book perm moved cap life year r).1∧((zcp l book perm moved cap life year r).1=0→ZA l book perm moved cap life year r=zcp l book perm moved cap life year r):=by
 have hk:=zgi year hs;have hg:=zkA year hs;have hkI:=hI.kept year;have hkn:∀v∈zb5 l year,0≤v.n:=fun v hv=>(hkI.m v (hk▸hv)).1;unfold ZA zcp;simp only[hk,hg];split
 ·exact⟨rfl,fun h=>absurd h (by simp)⟩
 rename_i k1;by_cases k2:Jy book perm moved=true
 ·obtain⟨m1,m2,m3,m4⟩:=zbC.1 k2;simp only[k2,m1,m2,m3,m4,not_true_eq_false,if_false,or_false];generalize book+perm-moved=n at *;split
  ·rename_i hn;have hc:zn cap=true:=by
    cases h:zn cap with
    |true=>rfl
    |false=>exact absurd (.inl (by simp[h])) k1
   have hr:=Qh n cap m4;rw[zo5 year (zb5 l year) (jD n cap) hr.1 hkn,zrn hn m4 hc];exact⟨rfl,fun _=>rfl⟩
  ·split
   ·rw[zkG (zhx hs year)];generalize zhF (zb5 l year) year (year+life) (-n)=a;obtain⟨a1,a2⟩:=a;by_cases h:a1=0
    ·subst h;exact⟨rfl,fun _=>rfl⟩
    ·simp only[zuV h];exact⟨trivial,fun h2=>absurd h2 h⟩
   ·exact⟨rfl,fun _=>rfl⟩
 ·have hne:¬za book=true∨¬za perm=true∨¬za moved=true∨¬za (book+perm-moved)=true:=by
   refine Classical.byContradiction fun h=>k2 (zbC.2 ?_);simp only[not_or,Decidable.not_not] at h;exact h
  simp only[zuT k2,zuT hne];exact⟨trivial,fun h=>absurd h (by decide)⟩
theorem zkH{a b c d:Vi}(h1:a.o=c.o)(h2:a.e=c.e)(h3:b.o=d.o)(h4:b.e=d.e):ltV a b=ltV c d:=by simp only[ltV,h1,h2,h3,h4]
theorem zll:∀{l:List Vi} {us:List Int} {b:Vi},b∈List.zipWith Ya l us→∃x∈l,b.o=x.o∧b.e=x.e
 |[],_,b,h=>by simp at h
 |_::_,[],b,h=>by simp at h
 |v::l,u::us,b,h=>by
  rw[zxy,zu4] at h;rcases h with rfl|h
  ·exact⟨v,by simp,rfl,rfl⟩
  ·obtain⟨x,hx,h1⟩:=zll h;exact⟨x,zvO _ hx,h1⟩
theorem zlm:∀{l:List Vi} (us:List Int),Sor ltV l→Sor ltV (List.zipWith Ya l us)
 |[],_,_=>by simp[Sor]
 |_::_,[],_=>by simp[Sor]
 |v::l,u::us,h=>by obtain⟨h1,h2⟩:=zvh.1 h;rw[zxy];refine zvh.2 ⟨fun b hb=> ?_,zlm us h2⟩;obtain⟨x,hx,e1,e2⟩:=zll hb;rw[zkH (a:=Ya v u) (c:=v) (d:=x) rfl rfl e1 e2];exact h1 x hx
theorem zo0{l:List Vi}(h:Sor ltV l)(us:List Int):Sor ltV (Q0 l us):=by rw[zbM];exact(zlm us h).sublist zwm
theorem zp3{l:List Vi}(h:Sor ltV l)(o e n:Int):Sor ltV (QO l o e n).2:=by
 have hu:l.Pairwise zeu:=h.imp fun{a b} h=>zby.1 (by rw[h];rfl);rw[zkG h];unfold zhF;split
 ·exact h
 split
 ·exact h
 split
 ·refine zwY.2 (h.imp fun{a b} hl=> ?_);rw[zkH (c:=a) (d:=b)]
  ·exact hl
  all_goals(split<;>rfl)
 ·rename_i hk;split
  ·exact h
  ·simp only;rw[zge];refine ZM zjo h fun x hx=> ?_;have:zeu ⟨o,e,n⟩ x:=fun⟨e1,e2⟩=>hk (zwy.2 ⟨x,hx,by simp only[Yt,zuS,zwi];exact⟨e1.symm,e2.symm⟩⟩);simpa[zvT] using zby.2 this
theorem zrC{l:List Vi}(h:Sor ltV l){book perm moved cap life year r:Int}{res:Res}{left:List Vi}(ht:ZA l book perm moved cap life year r=(0,res,left)):Sor ltV left:=by
 have hk:Sor ltV (yz year l):=by rw[zgi year h];exact zhx h year
 unfold ZA at ht;split at ht
 ·simp at ht
 split at ht
 ·simp at ht
 simp only at ht;split at ht
 ·simp only[zuL,true_and] at ht;obtain⟨_,rfl⟩:=ht;exact zo0 hk _
 ·split at ht
  ·split at ht
   ·simp only[zuL,true_and] at ht;obtain⟨_,rfl⟩:=ht;exact zp3 hk _ _ _
   ·rename_i hh;simp only[zuL] at ht;exact absurd ht.1 hh
  ·simp only[zuL,true_and] at ht;obtain⟨_,rfl⟩:=ht;exact hk
theorem zeW(a b:UInt8)(x y:List UInt8):Op.bytesLess (a::x) (b::y)=true↔a.toNat<b.toNat∨(a.toNat=b.toNat∧Op.bytesLess x y=true):=by simp only[Op.bytesLess,zvT,zuS,zuZ,zwi,UInt8.lt_iff_toNat_lt,←UInt8.toNat_inj]
theorem zhA(x:List UInt8):Op.bytesLess x []=false:=by cases x<;>rfl
theorem zkE:∀(x y z:List UInt8),Op.bytesLess x y=true→Op.bytesLess y z=true→Op.bytesLess x z=true
 |_,_,[],_,h=>by rw[zhA] at h;cases h
 |_,[],_::_,h,_=>by rw[zhA] at h;cases h
 |[],_::_,_::_,_,_=>by simp[Op.bytesLess]
 |a::x,b::y,c::z,h1,h2=>by
  rw[zeW] at *;rcases h1 with h1|⟨h1,k1⟩
  ·rcases h2 with h2|⟨h2,k2⟩
   ·exact .inl (by omega)
   ·exact .inl (by omega)
  ·rcases h2 with h2|⟨h2,k2⟩
   ·exact .inl (by omega)
   ·exact .inr ⟨by omega,zkE x y z k1 k2⟩
theorem zhz:∀(x:List UInt8),Op.bytesLess x x=false
 |[]=>rfl
 |a::x=>by
  cases h:Op.bytesLess (a::x) (a::x) with
  |false=>rfl
  |true=>
   rw[zeW] at h;rcases h with h|⟨_,h⟩
   ·omega
   ·rw[zhz x] at h;cases h
theorem zjn{a b c:ByteArray}(h1:ltS a b=true)(h2:ltS b c=true):ltS a c=true:=zkE _ _ _ h1 h2
theorem zbx{a b:ByteArray}(h1:ltS a b=true)(h2:ltS b a=true):False:=by have:=zjn h1 h2;unfold ltS at this;rw[zhz] at this;cases this
theorem zgp{a b:Pa}:ltP a b=true↔ltS a.s b.s=true∨(a.s=b.s∧ltS a.b b.b=true):=by simp only[ltP,zvT,zuS,z2,zuZ]
theorem zjl(a b c:Pa)(h1:ltP a b=true)(h2:ltP b c=true):ltP a c=true:=by
 rw[zgp] at *;rcases h1 with h1|⟨h1,k1⟩
 ·rcases h2 with h2|⟨h2,k2⟩
  ·exact .inl (zjn h1 h2)
  ·exact .inl (h2▸h1)
 ·rcases h2 with h2|⟨h2,k2⟩
  ·exact .inl (h1▸h2)
  ·exact .inr ⟨h1.trans h2,zjn k1 k2⟩
theorem zn0(a b:Pa)(h1:ltP a b=true)(h2:ltP b a=true):False:=by
 rw[zgp] at *;rcases h1 with h1|⟨h1,k1⟩
 ·rcases h2 with h2|⟨h2,k2⟩
  ·exact zbx h1 h2
  ·rw[h2] at h1;exact zbx h1 h1
 ·rcases h2 with h2|⟨h2,k2⟩
  ·rw[h1] at h2;exact zbx h2 h2
  ·exact zbx k1 k2
theorem zgd(b:Pa):∀l:List Pa,znL b l=ZL ltP b l
 |[]=>rfl
 |x::l=>by rw[znL,ZL,zgd b l]
theorem zqQ{a b:Pa}(h:ltP a b=true):unP a b:=fun⟨e1,e2⟩=>by
 rw[zgp,e1,e2] at h;rcases h with h|⟨_,h⟩
 ·exact zbx h h
 ·exact zbx h h
theorem zgG{c:List Pa}(hs:Sor ltP c)(s b:ByteArray)(v:Int):zu ltP (jO c s b v)=if v=0 then c.filter (fun x=> !Zn s b x) else znL ⟨s,b,v⟩ (c.filter fun x=> !Zn s b x):=by
 have hf:Sor ltP (c.filter fun x=> !Zn s b x):=hs.sublist zwm;have hu:c.Pairwise unP:=hs.imp fun{a b} h=>zqQ h;have hd:=Q9 (za2 hu s b v);have hsr:=qY zjl hd;have hp:=yx ltP (jO c s b v);unfold jO at *;simp only at *;split
 ·rename_i h;rw[zuT h] at hsr hp;exact YT zn0 hp hsr hf
 ·rename_i h;rw[zuV h] at hsr hp;rw[zgd];refine YT zn0 ?_ hsr (ZM zjl hf fun x hx=> ?_)
  ·exact(hp.trans List.perm_append_comm).trans (jg ltP _ _).symm
  ·have hk:=(zvQ.1 hx).2;have:unP ⟨s,b,v⟩ x:=fun⟨e1,e2⟩=>by
    simp[Zn,←e1,←e2,z2] at hk
   have:=zjm this;simpa[zvT] using this
theorem znm{c:List Pa}(hs:Sor ltP c)(hm:∀x∈c,za x.n=true)(s b:ByteArray)(n:Int):j0 c s b n=ziW c s b n:=by
 have hp:za (Yh c s b)=true:=by
  unfold Yh;split
  ·rename_i x h;exact hm x (zv0 h)
  ·decide
 unfold j0 ziW;split
 ·rfl
 rename_i h1;have hn:za n=true:=by
  cases h:za n with
  |true=>rfl
  |false=>exact absurd (.inr (.inr (.inr (by simp[h])))) h1
 have hw:wr (Yh c s b+n)=Yh c s b+n:=Js hp hn;simp only[hw];split
 ·rfl
 have hl:=congrArg List.length (zgG hs s b (Yh c s b+n));rw[zJ] at hl;rw[zgG hs s b,hl]
def PerV(e:Ent):Prop:=∀(k:Nat) (h:k<e.cs.length),e.cs[k].p.inp.p=e.first+(k:Int)
theorem zk0{e:Ent}(hk:PerV e)(p:Int):qR e p=YR e p:=by
 unfold qR YR;by_cases h1:p<e.first
 ·rw[zuT h1,zwH.2]
  ·rfl
  ·intro c hc;obtain⟨k,hk',rfl⟩:=zw1 hc;have:=hk k hk';simp only[zwi];omega
 ·rw[zuV h1];cases h2:e.cs.find? fun c=>c.p.inp.p==p with
  |none=>
   rw[zvU];refine Nat.le_of_not_lt fun hlt=> ?_;have h3:=hk _ hlt;have:=zwH.1 h2 _ (zvi hlt);simp only[zwi] at this;omega
  |some c=>
   have h3:=List.find?_some h2;simp only[zwi] at h3;obtain⟨k,hk',rfl⟩:=zw1 (zv0 h2);have h4:=hk k hk';have:(p-e.first).toNat=k:=by omega
   rw[this,zuY hk']
theorem ztz(a b c:Wa)(h1:ltW a b=true)(h2:ltW b c=true):ltW a c=true:=by simp[ltW] at *;omega
theorem zjp(a b:Wa)(h1:ltW a b=true)(h2:ltW b a=true):False:=by simp[ltW] at *;omega
theorem zhL{c y:Int}{f:Wa→Wa}:∀{l:List Wa},Ju l→∀x:Wa,x∈ZR c y f l↔(x∈l∧qD c y x=false)∨(∃w∈l,qD c y w=true∧x=f w)∨((∀w∈l,qD c y w=false)∧x=f (zhP c y))
 |[],_,x=>by simp[ZR]
 |a::l,h,x=>by
  have hd:∀w∈l,zc5 a w:=(zvh.1 h).1;have ih:=zhL (c:=c) (y:=y) (f:=f) (zvh.1 h).2 x;unfold ZR;cases hk:qD c y a with
  |true=>
   have hn:∀w∈l,qD c y w=false:=fun w hw=>by have:=hd w hw;simp[qD,zc5] at hk this⊢;intro e;have h2:=this (by rw[hk.1,e]);rw[hk.2] at h2;exact fun e2=>h2 e2.symm
   simp only[if_true,zu4];constructor
   ·rintro(rfl|hx)
    ·exact .inr (.inl ⟨a,.inl rfl,hk,rfl⟩)
    ·exact .inl ⟨.inr hx,hn x hx⟩
   ·rintro(⟨rfl|hx,h1⟩|⟨w,rfl|hw,h1,rfl⟩|⟨h1,_⟩)
    ·rw[hk] at h1;cases h1
    ·exact .inr hx
    ·exact .inl rfl
    ·rw[hn w hw] at h1;cases h1
    ·rw[h1 a (.inl rfl)] at hk;cases hk
  |false=>
   simp only[zvg,if_false,zu4];rw[ih];constructor
   ·rintro(rfl|⟨hx,h1⟩|⟨w,hw,h1,rfl⟩|⟨h1,rfl⟩)
    ·exact .inl ⟨.inl rfl,hk⟩
    ·exact .inl ⟨.inr hx,h1⟩
    ·exact .inr (.inl ⟨w,.inr hw,h1,rfl⟩)
    ·refine .inr (.inr ⟨?_,rfl⟩);rintro w (rfl|hw)
     ·exact hk
     ·exact h1 w hw
   ·rintro(⟨rfl|hx,h1⟩|⟨w,rfl|hw,h1,rfl⟩|⟨h1,rfl⟩)
    ·exact .inl rfl
    ·exact .inr (.inl ⟨hx,h1⟩)
    ·rw[hk] at h1;cases h1
    ·exact .inr (.inr (.inl ⟨w,hw,h1,rfl⟩))
    ·exact .inr (.inr (.inr ⟨fun w hw=>h1 w (.inr hw),rfl⟩))
def zW(c:List Bu)(w:Wa):Wa:=match c.find? (jH w.c w.y) with
 |some b=>{w with z:=b.n}
 |none=>w
def wO(b:Bu):Wa:=⟨b.c,b.y,b.n,0,0⟩
def wZ(b:Bu):Wa:=⟨b.c,b.y,0,0,b.n⟩
theorem QD:∀(c:List Bu) (l:List Wa),c.Pairwise unB→Ju l→∀x:Wa,x∈c.foldl qK l↔(∃w∈l,x=zW c w)∨(∃b∈c,(∀w∈l,qD b.c b.y w=false)∧x=wZ b)
 |[],l,_,_,x=>by simp[zW]
 |b::c,l,hc,hl,x=>by
  obtain⟨hb,hc'⟩:=zvh.1 hc;have hl1:Ju (qK l b):=QH (c:=b.c) (y:=b.y) (f:=fun w=>{w with z:=b.n}) (fun w=>⟨rfl,rfl⟩) hl;have hp:=zhL (c:=b.c) (y:=b.y) (f:=fun w=>{w with z:=b.n}) hl;have hk:∀w:Wa,qD b.c b.y w=true→w.c=b.c∧w.y=b.y:=fun w h=>by simpa[qD] using h
  have hno:∀w:Wa,w.c=b.c→w.y=b.y→zW c w=w:=fun w e1 e2=>by unfold zW;rw[zwH.2];intro d hd;have:=hb d hd;simp[unB] at this;simp[jH,e1,e2];intro e3 e4;exact this e3.symm e4.symm
  have hcons:∀w:Wa,qD b.c b.y w=false→zW (b::c) w=zW c w:=fun w h=>by
   have:jH w.c w.y b=false:=by simp[qD] at h;simp[jH];exact fun e1 e2=>h e1.symm e2.symm
   simp[zW,this]
  have hcons2:∀w:Wa,qD b.c b.y w=true→zW (b::c) w={w with z:=b.n}:=fun w h=>by
   obtain⟨e1,e2⟩:=hk w h;have:jH w.c w.y b=true:=by simp[jH,e1,e2]
   simp[zW,this]
  show x∈c.foldl qK (qK l b)↔_;rw[QD c (qK l b) hc' hl1 x];constructor
  ·rintro(⟨w,hw,rfl⟩|⟨d,hd,h1,rfl⟩)
   ·rcases(hp w).1 hw with⟨h1,h2⟩|⟨w0,h1,h2,rfl⟩|⟨h1,rfl⟩
    ·exact .inl ⟨w,h1,(hcons w h2).symm⟩
    ·refine .inl ⟨w0,h1,?_⟩;obtain⟨e1,e2⟩:=hk w0 h2;rw[hcons2 w0 h2,hno {w0 with z:=b.n} e1 e2]
    ·exact .inr ⟨b,by simp,h1,hno _ rfl rfl⟩
   ·refine .inr ⟨d,by simp[hd],fun w hw=> ?_,rfl⟩;cases hq:qD b.c b.y w with
    |false=>exact h1 w ((hp w).2 (.inl ⟨hw,hq⟩))
    |true=>exact h1 {w with z:=b.n} ((hp {w with z:=b.n}).2 (.inr (.inl ⟨w,hw,hq,rfl⟩)))
  ·rintro(⟨w,hw,rfl⟩|⟨d,hd,h1,rfl⟩)
   ·cases hq:qD b.c b.y w with
    |false=>exact .inl ⟨w,(hp w).2 (.inl ⟨hw,hq⟩),hcons w hq⟩
    |true=>
     obtain⟨e1,e2⟩:=hk w hq;exact .inl ⟨{w with z:=b.n},(hp {w with z:=b.n}).2 (.inr (.inl ⟨w,hw,hq,rfl⟩)),by rw[hcons2 w hq,hno {w with z:=b.n} e1 e2]⟩
   ·rcases zu4.1 hd with rfl|hd
    ·exact .inl ⟨wZ d,(hp _).2 (.inr (.inr ⟨h1,rfl⟩)),(hno _ rfl rfl).symm⟩
    ·refine .inr ⟨d,hd,fun w hw=> ?_,rfl⟩;rcases(hp w).1 hw with⟨h2,h3⟩|⟨w0,h2,h3,rfl⟩|⟨h2,rfl⟩
     ·exact h1 w h2
     ·exact h1 w0 h2
     ·have:=hb d hd;simp[unB] at this;simp[qD,zhP];exact this
theorem zeP:∀(o:List Bu) (l:List Wa),o.Pairwise unB→(∀b∈o,∀w∈l,qD b.c b.y w=false)→o.foldl qu l=l++o.map wO
 |[],l,_,_=>by simp
 |b::o,l,ho,hl=>by
  obtain⟨hb,ho'⟩:=zvh.1 ho;have e1:∀{l:List Wa},(∀w∈l,qD b.c b.y w=false)→ZR b.c b.y (fun w=>{w with o:=b.n}) l=l++[wO b]:=by
   intro l
   induction l with
   |nil=>intro _;rfl
   |cons a l ih=>
    intro h;unfold ZR;rw[h a (by simp)];simp[ih fun w hw=>h w (by simp[hw])]
  have e2:qu l b=l++[wO b]:=e1 (hl b (by simp));show o.foldl qu (qu l b)=_;rw[e2,zeP o _ ho' ?_]
  ·simp
  ·intro d hd w hw;rcases zuX.1 hw with hw|hw
   ·exact hl d (by simp[hd]) w hw
   ·rw[zvm] at hw;subst hw;have:=hb d hd;simp[unB] at this;simp[qD,wO];exact this
theorem zeQ{l:List Bu}{c y:Int}:getD l c y=match l.find? (jH c y) with
 |some b=>b.n
 |none=>0:=rfl
theorem zf8{l:List Bu}{c y:Int}(h:getD l c y≠0):∃b∈l,b.c=c∧b.y=y∧b.n=getD l c y:=by
 rw[zeQ] at h⊢;cases hf:l.find? (jH c y) with
 |none=>rw[hf] at h;exact absurd rfl h
 |some b=>
  have h1:=zv0 hf;have h2:=List.find?_some hf;simp[jH] at h2;exact⟨b,h1,h2.1,h2.2,rfl⟩
theorem zlj(c:List Bu)(w:Wa)(hz:w.z=0):zW c w={w with z:=getD c w.c w.y}:=by
 unfold zW;rw[zeQ];cases c.find? (jH w.c w.y) with
 |none=>simp[←hz]
 |some b=>rfl
theorem zl2:zeU.Pairwise fun a b=>a.1<b.1∨(a.1=b.1∧a.2<b.2):=by
 unfold zeU;rw[List.pairwise_flatMap];refine⟨fun c _=> ?_,?_⟩
 ·rw[zwY];refine List.pairwise_lt_range.imp fun h=> .inr ⟨rfl,?_⟩;simp only;omega
 ·refine List.pairwise_lt_range.imp fun{a b} h x hx y hy=> ?_;rw[zvZ] at hx hy;obtain⟨_,_,rfl⟩:=hx;obtain⟨_,_,rfl⟩:=hy;left;simp only;omega
theorem zeV{c y:Int}:(c,y)∈zeU↔1≤c∧c≤9∧0≤y∧y≤99:=by
 unfold zeU;simp only[zvr,zvZ,zwq,zuL];constructor
 ·rintro⟨a,ha,b,hb,rfl,rfl⟩;omega
 ·rintro⟨h1,h2,h3,h4⟩;exact⟨(c-1).toNat,by omega,y.toNat,by omega,by omega,by omega⟩
structure BuV(l:List Bu):Prop where
 u:l.Pairwise unB
 nz:∀b∈l,b.n≠0
 m:∀b∈l,za b.n=true
 k:∀b∈l,yK b.c b.y=true
theorem BuV.nil:BuV []:=⟨.nil,(fun b h=>by cases h),(fun b h=>by cases h),(fun b h=>by cases h)⟩
theorem BuV.perm{l m:List Bu}(h:BuV l)(p:l.Perm m):BuV m:=⟨(p.pairwise_iff (fun{x y} hxy e=>hxy ⟨e.1.symm,e.2.symm⟩)).1 h.u,fun b hb=>h.nz b (p.mem_iff.2 hb),fun b hb=>h.m b (p.mem_iff.2 hb),fun b hb=>h.k b (p.mem_iff.2 hb)⟩
theorem BuV.getM{l:List Bu}(h:BuV l)(c y:Int):za (getD l c y)=true:=by
 by_cases h0:getD l c y=0
 ·rw[h0];rfl
 ·obtain⟨b,hb,_,_,e⟩:=zf8 h0;rw[←e];exact h.m b hb
theorem zpc{a b:Int}(ha:za a=true)(hb:za b=true):wr (a-b)=a-b:=by simp[za] at ha hb;exact ze (by omega) (by omega)
theorem zho{o c:List Bu}(ho:BuV o)(hc:BuV c)(x:Wa):x∈zw o c↔x∈zZ o c:=by
 have hO:=zeP o [] ho.u (fun b _ w hw=>by cases hw);have hd:Ju (o.map wO):=by
  have:=zac o [] .nil
  rwa [hO,zwo] at this
 have hmove:∀k1 k2,Jx ⟨k1,k2,getD o k1 k2,0,getD c k1 k2⟩=⟨k1,k2,getD o k1 k2,getD c k1 k2-getD o k1 k2,getD c k1 k2⟩:=fun k1 k2=>by unfold Jx;simp only;rw[zpc (hc.getM _ _) (ho.getM _ _)]
 unfold zw zZ;rw[(yx ltW _).mem_iff,zvZ,hO,zwo,zvZ];constructor
 ·rintro⟨w,hw,rfl⟩;rcases(QD c (o.map wO) hc.u hd w).1 hw with⟨v,hv,rfl⟩|⟨b,hb,h1,rfl⟩
  ·obtain⟨b,hb,rfl⟩:=zvZ.1 hv;have hg:=YJ ho.u hb;refine⟨(b.c,b.y),zvQ.2 ⟨zeV.2 ?_,?_⟩,?_⟩
   ·have:=ho.k b hb;simp[yK,yF] at this;omega
   ·have:=ho.nz b hb;simp[hg,this]
   ·rw[zlj _ _ rfl];show _=Jx ⟨b.c,b.y,b.n,0,getD c b.c b.y⟩;rw[←hg];exact(hmove _ _).symm
  ·have hg:=YJ hc.u hb;have h0:getD o b.c b.y=0:=getD_none fun a ha=>by
    have:=h1 (wO a) (zw3 ha);simp[qD,wO] at this;exact fun e=>this e.1 e.2
   refine⟨(b.c,b.y),zvQ.2 ⟨zeV.2 ?_,?_⟩,?_⟩
   ·have:=hc.k b hb;simp[yK,yF] at this;omega
   ·have:=hc.nz b hb;simp[hg,this]
   ·have:=hmove b.c b.y;rw[h0,hg] at this;simp only[h0,hg];exact this.symm
 ·rintro⟨⟨k1,k2⟩,hk,rfl⟩;obtain⟨_,hk⟩:=zvQ.1 hk;by_cases h0:getD o k1 k2=0
  ·have h1:getD c k1 k2≠0:=by simpa[h0] using hk
   obtain⟨b,hb,rfl,rfl,e⟩:=zf8 h1;refine⟨wZ b,(QD c (o.map wO) hc.u hd _).2 (.inr ⟨b,hb,?_,rfl⟩),?_⟩
   ·intro w hw;obtain⟨a,ha,rfl⟩:=zvZ.1 hw;have hg:=YJ ho.u ha;simp only[qD,wO,zw8,beq_eq_false_iff_ne];by_cases e1:a.c=b.c
    ·refine .inr fun e2=> ?_;rw[e1,e2] at hg;exact ho.nz a ha (by rw[←hg];exact h0)
    ·exact .inl e1
   ·have:=hmove b.c b.y;rw[h0,←e] at this;simp only[h0,←e];exact this
  ·obtain⟨b,hb,rfl,rfl,e⟩:=zf8 h0;refine⟨_,(QD c (o.map wO) hc.u hd _).2 (.inl ⟨wO b,zw3 hb,rfl⟩),?_⟩;rw[zlj _ _ rfl];have:=hmove b.c b.y;rw[←e] at this;simp only[←e];exact this
theorem zfp{α:Type}{lt:α→α→Bool}(as:∀a b,lt a b=true→lt b a=true→False){l:List α}(h:Sor lt l):l.Nodup:=h.imp fun{a b} h e=>by subst e;exact as a a h h
theorem zf6(o c:List Bu):Sor ltW (zZ o c):=by unfold zZ Sor;rw[zwY];refine(zl2.filter _).imp fun{a b} h=> ?_;simp[ltW];omega
theorem zjd{o c:List Bu}(ho:BuV o)(hc:BuV c):zw o c=zZ o c:=by have s1:Sor ltW (zw o c):=qY ztz (zaH o c);have s2:=zf6 o c;exact YT zjp ((List.perm_ext_iff_of_nodup (zfp zjp s1) (zfp zjp s2)).2 (zho ho hc)) s1 s2
def zfB(t:List Rw):Prop:=∀x∈t,zn x.r=true
theorem zh5(j:ByteArray)(y p:Int):∀(t:List Rw) (b:Option Rw) (x:Rw),t.foldl (QW j y p) b=some x→x∈t∨b=some x
 |[],b,x,h=> .inr h
 |a::t,b,x,h=>by
  rcases zh5 j y p t _ x h with h1|h1
  ·exact .inl (by simp[h1])
  ·unfold QW at h1;split at h1
   ·split at h1
    ·simp at h1;exact .inl (by simp[h1])
    ·split at h1
     ·simp at h1;exact .inl (by simp[h1])
     ·exact .inr h1
   ·exact .inr h1
theorem zd3{t:List Rw}(ht:zfB t){j:ByteArray}{y p r:Int}(h:jm t j y p=some r):zn r=true:=by
 unfold jm at h;rw[zuM] at h;obtain⟨x,h1,rfl⟩:=h;rcases zh5 j y p t none x h1 with h2|h2
 ·exact ht x h2
 ·cases h2
theorem Yj{t:List Rw}(ht:zfB t){j:ByteArray}{p:Int}:∀{ys l:List Int},zS t j p ys=some l→l.length=ys.length∧∀r∈l,zn r=true
 |[],l,h=>by simp[zS] at h;subst h;simp
 |y::ys,l,h=>by
  unfold zS at h;cases hr:jm t j (max y (p.tdiv 4)) p with
  |none=>rw[hr] at h;cases h
  |some r=>
   rw[hr] at h;simp only[zuM] at h;obtain⟨l',h1,rfl⟩:=h;obtain⟨h2,h3⟩:=Yj ht h1;refine⟨by simp[h2],fun q hq=> ?_⟩;rcases zu4.1 hq with rfl|hq
   ·exact zd3 ht hr
   ·exact h3 q hq
theorem ze7:∀{l:List Bu} {s:List Int} {c y now:Int},(∀r∈s,zn r=true)→zn now=true→zn (ZZ l s c y now)=true
 |[],s,c,y,now,h,hn=>by simpa[ZZ] using hn
 |_::_,[],c,y,now,h,hn=>by simpa[ZZ] using hn
 |b::l,r::s,c,y,now,h,hn=>by
  unfold ZZ;split
  ·exact h r (by simp)
  ·exact ze7 (fun q hq=>h q (by simp[hq])) hn
theorem zdX{op:Bal}(h:∀r∈op.r,zn r=true):∀{l:List Wa} {s:List Int},l.length=s.length→(∀r∈s,zn r=true)→(yE op l s).length=l.length∧∀r∈yE op l s,zn r=true
 |[],s,_,_=>by simp[yE]
 |w::l,[],hl,_=>by simp at hl
 |w::l,n::s,hl,hs=>by
  obtain⟨h1,h2⟩:=zdX h (l:=l) (s:=s) (by simpa using hl) (fun q hq=>hs q (by simp[hq]));refine⟨by simp[yE,h1],fun q hq=> ?_⟩;unfold yE at hq;rcases zu4.1 hq with rfl|hq
  ·exact ze7 h (hs n (by simp))
  ·exact h2 q hq
structure BalM(x:Bal):Prop where
 b:BuV x.b
 r:∀r∈x.r,zn r=true
 temp:za x.temp=true
 loss:za x.loss=true
 allow:za x.allow=true
theorem ztR:BalM yX:=⟨.nil,(fun r h=>by cases h),rfl,rfl,rfl⟩
theorem zaG(o c:List Bu):(zZ o c).length≤900:=by unfold zZ;rw[zvc];refine zvB (zwd _ _) ?_;show zeU.length≤900;decide+kernel
theorem zdt{o c:List Bu}(ho:BuV o)(hc:BuV c):∀w∈zZ o c,za w.o=true∧za w.z=true∧-200000000000≤w.m∧w.m≤200000000000:=fun w hw=>by unfold zZ at hw;obtain⟨k,_,rfl⟩:=zvZ.1 hw;have h1:=ho.getM k.1 k.2;have h2:=hc.getM k.1 k.2;refine⟨h1,h2,?_,?_⟩<;>(simp[za] at h1 h2;simp only;omega)
theorem zg0{α:Type}(f:α→Int)(B:Int)(hB:0≤B)(hs:B*1000≤9000000000000000000):∀(l:List α) (n:Int) (k:Nat),(k+l.length≤1000)→(-(B*k)≤n∧n≤B*k)→(∀a∈l,-B≤f a∧f a≤B)→l.foldl (fun n a=>wr (n+f a)) n=n+(l.map f).sum
 |[],n,k,_,_,_=>by simp
 |a::l,n,k,hk,hn,hl=>by
  have ha:=hl a (by simp);have hk':k+1+l.length≤1000:=by simp at hk;omega
  have e1:B*((k+1:Nat):Int)=B*k+B:=by rw[zwx,zw9];simp
  have e2:B*((k+1:Nat):Int)≤B*1000:=zwJ (by omega) hB;have w:wr (n+f a)=n+f a:=ze (by omega) (by omega);simp only[zwD,w,zu7,zwu];rw[zg0 f B hB hs l (n+f a) (k+1) hk' (by rw[e1];omega) (fun b hb=>hl b (by simp[hb]))];omega
theorem zn8{l:List Wa}(hl:l.length≤900)(hm:∀w∈l,-200000000000≤w.m∧w.m≤200000000000):J7 l=(l.map (·.m)).sum:=by unfold J7;have:=zg0 (fun w:Wa=>w.m) 200000000000 (by omega) (by omega) l 0 0 (by omega) (by omega) hm;rw[this,zxr]
theorem zrG{l:List Bu}{s:List Int}(h1:s.length=l.length)(h2:∀r∈s,zn r=true)(h3:∀b∈l,za b.n=true):jQ l s=if za (jw l s)=true then(jw l s,0) else(0,6):=by unfold jQ;rw[zuV (by simpa using h1),zuT (zdV l s fun k a b=>⟨h2 _ (zvi b),h3 _ (zvi a)⟩)]
theorem zsW{l:List Wa}{s t:List Int}(h1:s.length=l.length)(h2:t.length=l.length)(h3:∀r∈s,zn r=true)(h4:∀r∈t,zn r=true)(h5:∀w∈l,za w.o=true∧za w.z=true):JQ l s t=if za (yC l t)=true∧za (yy l s t)=true then(yC l t,yy l s t,0) else(0,0,6):=by unfold JQ;rw[zuV (by simp[h1,h2]),zuT];intro k a b c;exact⟨h3 _ (zvi b),h4 _ (zvi c),h5 _ (zvi a)⟩
theorem QK{n r v:Int}(h:zm n r=(v,0)):0≤n∧n≤100000000000∧zn r=true∧v=zg n r∧za v=true∧0≤v:=by
 unfold zm at h;split at h
 ·rename_i hh;simp at h;have h2:0≤r∧r≤1000000:=by simpa[zn] using hh.2.2
  have h1:=Qe (n:=n) (r:=r) ⟨by omega,hh.2.1⟩ h2;have h3:=zoo (n:=n) (r:=r) hh.1;exact⟨hh.1,hh.2.1,hh.2.2,h.symm,by rw[←h];simp[za];omega,by rw[←h];exact h3⟩
 ·simp at h
theorem zg2(n r:Int):jZ n r=if(zm n r).2=0 then(-(zm n r).1,0) else(0,(zm n r).2):=by unfold jZ zm;split<;>simp
theorem zeg{l:List Vi}(hI:LosI l)(hs:Sor ltV l){book perm moved cap life year r:Int}{cur:Res}{left:List Vi}(h:zcp l book perm moved cap life year r=(0,cur,left)):za cur.tax=true:=by
 have h1:=zj4 hI hs book perm moved cap life year r;have h2:ZA l book perm moved cap life year r=(0,cur,left):=by rw[h1.2 (by rw[h]),h]
 exact(zfs hI book perm moved cap life year r h2).2
def zkI(t:List Rw)(inp:Inp)(op:Bal)(l:List Vi)(reg:List Bu):Int×Pro×List Vi:=
 if¬zl inp.p=true∨¬zn inp.judge=true∨¬za inp.up=true then(1,zt,l)
 else match jm t inp.j (inp.p.tdiv 4) inp.p with
  |none=>(7,zt,l)
  |some r=>
   if(yR t inp.j inp.p).2≠0 then((yR t inp.j inp.p).2,zt,l)
   else match zS t inp.j inp.p (reg.map (·.y)) with
    |none=>(7,zt,l)
    |some rates=>
     let next:=(yR t inp.j inp.p).1
     let rows:=zZ op.b reg;let tx:=zcp l inp.book inp.perm ((rows.map (·.m)).sum) inp.cap inp.life (inp.p.tdiv 4) r
     if tx.1≠0 then(tx.1,zt,l)
     else if¬za (jw reg rates)=true then(6,zt,l)
     else
      let lf:=zA tx.2.2
      if(zm lf next).2≠0 then((zm lf next).2,zt,l)
      else if(zm (zm lf next).1 inp.judge).2≠0 then((zm (zm lf next).1 inp.judge).2,zt,l)
      else match zS t inp.j inp.p (rows.map (·.y)) with
       |none=>(7,zt,l)
       |some now=>
        let loss:=(zm lf next).1;let al:=(zm (zm lf next).1 inp.judge).1;let tm:=yC rows now;let tr:=yy rows (yE op rows now) now
        if¬za tm=true∨¬za tr=true then(6,zt,l)
        else
         let lr:=zg op.left op.next-zg op.left next
         let lm:=op.loss-loss-lr;let am:=op.allow- -al;let de:=tm+tr+lm+lr+am;let tot:=tx.2.1.tax+de+inp.up
         if[lm,lr,am,tx.2.1.tax+inp.up,jw reg rates-op.temp,loss-op.loss,-al-op.allow,de,tot].all za then(0,⟨inp,r,op,⟨inp.p,reg,rates,next,lf,jw reg rates,loss,-al⟩,tx.2.1,rows,now,tm,tr,lm,lr,am,de,tot⟩,tx.2.2) else(6,zt,l)
theorem zhI(t:List Rw)(inp:Inp)(op:Bal)(l:List Vi)(reg:List Bu):YM t inp op l reg=zkI t inp op l reg:=by
 unfold YM zkI;by_cases c1:¬zl inp.p=true∨¬zn inp.judge=true∨¬za inp.up=true
 ·rw[zuT c1,zuT c1]
 rw[zuV c1,zuV c1];dsimp only;cases jm t inp.j (inp.p.tdiv 4) inp.p with
 |none=>rfl
 |some r=>
 dsimp only;split
 rotate_left
 ·rename_i a e hne heq;have:(yR t inp.j inp.p).2≠0:=fun h=>hne (by rw[←h,heq]);rw[zuT this,heq]
 rename_i next heq
 rw[heq];simp only[ne_eq,not_true_eq_false,if_false];cases zS t inp.j inp.p (reg.map (·.y)) with
 |none=>rfl
 |some rates=>
 dsimp only;split
 rotate_left
 ·rename_i e a b hne heq;rw[heq];have:e≠0:=fun h=>hne h;rw[zuT this]
 rename_i cur left heq;rw[heq];simp only[ne_eq,not_true_eq_false,if_false];by_cases h1:¬za (jw reg rates)=true
 ·rw[zuT h1,zuT h1]
 rw[zuV h1,zuV h1];split
 rotate_left
 ·rename_i a e hne heq;rw[heq];have:e≠0:=fun h=>hne h;rw[zuT this]
 rename_i loss heq;rw[heq];simp only[ne_eq,not_true_eq_false,if_false];split
 rotate_left
 ·rename_i a e hne heq;rw[heq];have:e≠0:=fun h=>hne h;rw[zuT this]
 rename_i al heq;rw[heq];simp only[ne_eq,not_true_eq_false,if_false];cases zS t inp.j inp.p (List.map (fun x=>x.y) (zZ op.b reg))<;>rfl
theorem zqR{t:List Rw}(ht:zfB t)(inp:Inp){op:Bal}(hop:BalM op){l:List Vi}(hI:LosI l)(hs:Sor ltV l){reg:List Bu}(hr:BuV reg):
 (ju t inp op l reg).1=(YM t inp op l reg).1∧((YM t inp op l reg).1=0→ju t inp op l reg=YM t inp op l reg):=by
 have fe:=zjd hop.b hr;have fl:=zaG op.b reg;have fm:=zdt hop.b hr;have me:=zn8 fl (fun w hw=>⟨(fm w hw).2.2.1,(fm w hw).2.2.2⟩);rw[zhI];unfold ju zkI;rw[fe];by_cases c1:¬zl inp.p=true∨¬zn inp.judge=true∨¬za inp.up=true
 ·rw[zuT c1,zuT c1];exact⟨rfl,fun h=>by cases h⟩
 rw[zuV c1,zuV c1];simp only[not_or,Decidable.not_not] at c1;obtain⟨cp,cj,cu⟩:=c1;dsimp only;cases hr1:jm t inp.j (inp.p.tdiv 4) inp.p with
 |none=>exact⟨rfl,fun h=>by cases h⟩
 |some r=>
 dsimp only;have hrr:=zd3 ht hr1;have hn:yR t inp.j inp.p=((yR t inp.j inp.p).1,0)∨yR t inp.j inp.p=(0,7):=by
  unfold yR;rw[zuT cp];split
  ·exact .inl rfl
  ·exact .inr rfl
 rcases hn with hn|hn
 rotate_left
 ·rw[hn];exact⟨rfl,fun h=>by cases h⟩
 rw[hn];generalize(yR t inp.j inp.p).1=next at *
 simp only[ne_eq,not_true_eq_false,if_false];cases hrs:zS t inp.j inp.p (reg.map (·.y)) with
 |none=>exact⟨rfl,fun h=>by cases h⟩
 |some rates=>
 obtain⟨rl,rr⟩:=Yj ht hrs;dsimp only;rw[me];have te:=zj4 hI hs inp.book inp.perm ((zZ op.b reg).map (·.m)).sum inp.cap inp.life (inp.p.tdiv 4) r;have tm:=fun cur left=>zeg hI hs (book:=inp.book) (perm:=inp.perm) (moved:=((zZ op.b reg).map (·.m)).sum) (cap:=inp.cap) (life:=inp.life) (year:=inp.p.tdiv 4) (r:=r) (cur:=cur) (left:=left);generalize zcp l inp.book inp.perm ((zZ op.b reg).map (·.m)).sum inp.cap inp.life (inp.p.tdiv 4) r=TD at *;generalize ZA l inp.book inp.perm ((zZ op.b reg).map (·.m)).sum inp.cap inp.life (inp.p.tdiv 4) r=TP at *;obtain⟨te1,te2⟩:=te;by_cases h0:TD.1=0
 rotate_left
 ·rw[zuT (by rw[te1];exact h0),zuT h0];exact⟨te1,fun h=>absurd h h0⟩
 obtain rfl:=te2 h0;obtain⟨a,cur,left⟩:=TP;simp only at h0;subst h0;have tmm:=tm cur left rfl;simp only[ne_eq,not_true_eq_false,if_false];rw[zrG (by simpa using rl) rr hr.m];by_cases h1:za (jw reg rates)=true
 rotate_left
 ·rw[zuV h1,zuT (show¬((0,6):Int×Int).2=0 by decide),zuT h1];exact⟨rfl,fun h=>by cases h⟩
 simp only[h1,if_true,ne_eq,not_true_eq_false,if_false];generalize htd:jw reg rates=temp at *;by_cases he:(zm (zA left) next).2=0
 rotate_left
 ·rw[zuT he,zuT he];exact⟨rfl,fun h=>absurd h he⟩
 simp only[he,not_true_eq_false,if_false];have hsh:zm (zA left) next=((zm (zA left) next).1,0):=by rw[←he]
 generalize(zm (zA left) next).1=loss at *;rw[zg2];by_cases he2:(zm loss inp.judge).2=0
 rotate_left
 ·rw[zuV he2,zuT (show¬((0,(zm loss inp.judge).2):Int×Int).2=0 from he2),zuT he2];exact⟨rfl,fun h=>absurd h he2⟩
 simp only[he2,if_true,not_true_eq_false,if_false];have hsh2:zm loss inp.judge=((zm loss inp.judge).1,0):=by rw[←he2]
 generalize(zm loss inp.judge).1=al at *;cases hnw:zS t inp.j inp.p ((zZ op.b reg).map (·.y)) with
 |none=>exact⟨rfl,fun h=>by cases h⟩
 |some now=>
 obtain⟨nl,nr⟩:=Yj ht hnw;dsimp only;obtain⟨ol,orr⟩:=zdX hop.r (l:=zZ op.b reg) (s:=now) (by simpa using nl.symm) nr;rw[zsW ol (by simpa using nl) orr nr (fun w hw=>⟨(fm w hw).1,(fm w hw).2.1⟩)];generalize yC (zZ op.b reg) now=mv at *;generalize yy (zZ op.b reg) (yE op (zZ op.b reg) now) now=rt at *;by_cases h2:za mv=true∧za rt=true
 rotate_left
 ·rw[zuV h2,zuT (show¬((0,0,6):Int×Int×Int).2.2=0 by decide),zuT (by rw[zwz] at h2;exact h2)];exact⟨rfl,fun h=>by cases h⟩
 simp only[h2.1,h2.2,and_self,if_true,not_true_eq_false,if_false,or_self];obtain⟨_,_,_,_,lm1,_⟩:=QK hsh;obtain⟨_,_,_,_,lm2,_⟩:=QK hsh2;obtain⟨m1,m2⟩:=h2;have b1:=zF op.left op.next
 have b2:=zF op.left next
 have q1:=hop.temp;have q2:=hop.loss;have q3:=hop.allow;simp only[za,zuZ] at lm1 lm2 m1 m2 q1 q2 q3 tmm h1 cu;have w1:wr (zg op.left op.next-zg op.left next)=zg op.left op.next-zg op.left next:=ze (by omega) (by omega)
 have w2:wr (op.loss-loss)=op.loss-loss:=ze (by omega) (by omega);have w3:wr (op.loss-loss-(zg op.left op.next-zg op.left next))=op.loss-loss-(zg op.left op.next-zg op.left next):=ze (by omega) (by omega);have w4:wr (op.allow- -al)=op.allow- -al:=ze (by omega) (by omega);have w5:wr (mv+rt)=mv+rt:=ze (by omega) (by omega);have w6:wr (mv+rt+(op.loss-loss-(zg op.left op.next-zg op.left next)))=mv+rt+(op.loss-loss-(zg op.left op.next-zg op.left next)):=ze (by omega) (by omega);have w7:wr (mv+rt+(op.loss-loss-(zg op.left op.next-zg op.left next))+(zg op.left op.next-zg op.left next))=mv+rt+(op.loss-loss-(zg op.left op.next-zg op.left next))+(zg op.left op.next-zg op.left next):=ze (by omega) (by omega);have w8:wr (mv+rt+(op.loss-loss-(zg op.left op.next-zg op.left next))+(zg op.left op.next-zg op.left next)+(op.allow- -al))=mv+rt+(op.loss-loss-(zg op.left op.next-zg op.left next))+(zg op.left op.next-zg op.left next)+(op.allow- -al):=ze (by omega) (by omega);have w9:wr (cur.tax+(mv+rt+(op.loss-loss-(zg op.left op.next-zg op.left next))+(zg op.left op.next-zg op.left next)+(op.allow- -al)))=cur.tax+(mv+rt+(op.loss-loss-(zg op.left op.next-zg op.left next))+(zg op.left op.next-zg op.left next)+(op.allow- -al)):=ze (by omega) (by omega);have w10:wr (cur.tax+(mv+rt+(op.loss-loss-(zg op.left op.next-zg op.left next))+(zg op.left op.next-zg op.left next)+(op.allow- -al))+inp.up)=cur.tax+(mv+rt+(op.loss-loss-(zg op.left op.next-zg op.left next))+(zg op.left op.next-zg op.left next)+(op.allow- -al))+inp.up:=ze (by omega) (by omega);have w11:wr (cur.tax+inp.up)=cur.tax+inp.up:=ze (by omega) (by omega);have w12:wr (temp-op.temp)=temp-op.temp:=ze (by omega) (by omega);have w13:wr (loss-op.loss)=loss-op.loss:=ze (by omega) (by omega);have w14:wr (-al-op.allow)= -al-op.allow:=ze (by omega) (by omega);simp only[Jt,yO,w1,w2,w3,w4,w5,w6,w7,w8,w9,w10,w11,w12,w13,w14];split
 ·exact⟨rfl,fun _=>rfl⟩
 ·exact⟨rfl,fun h=>by cases h⟩
structure ProM(p:Pro):Prop where
 tax:za p.cur.tax=true
 up:za p.inp.up=true
 tu:za (p.cur.tax+p.inp.up)=true
 de:za p.deferred=true
 dt:za (p.cl.temp-p.op.temp)=true
 dl:za (p.cl.loss-p.op.loss)=true
 da:za (p.cl.allow-p.op.allow)=true
 tr:za p.tr=true
 lr:za p.lr=true
 am:za p.am=true
 tot:za p.total=true
 un: -4000000000000≤p.cur.used-p.cur.new∧p.cur.used-p.cur.new≤4000000000000
 rows:p.rows.length≤900
 cl:BalM p.cl
theorem zhB{p:Pro}(h:ProM p):j6 p=yG p:=by
 obtain⟨h1,h2,h3,h4,h5,h6,h7,_,_,_,_,_,_,_⟩:=h;simp only[za,zuZ] at h1 h2 h3 h4 h5 h6 h7;have w1:wr (-p.cur.tax)= -p.cur.tax:=ze (by omega) (by omega);have w2:wr (-p.cur.tax-p.inp.up)= -p.cur.tax-p.inp.up:=ze (by omega) (by omega);have w3:wr (p.cl.temp-p.op.temp)=p.cl.temp-p.op.temp:=ze (by omega) (by omega);have w4:wr (p.cl.loss-p.op.loss)=p.cl.loss-p.op.loss:=ze (by omega) (by omega);have w5:wr (p.cl.allow-p.op.allow)=p.cl.allow-p.op.allow:=ze (by omega) (by omega);have hf:zaD (Jc p)=true:=by simp[zaD,Jc,w1,w2,w3,w4,w5,za];omega
 unfold j6;rw[zuT hf];unfold yG Jc;rw[w1,w2,w3,w4,w5]
theorem znO{p:Pro}(h:ProM p):ql p=JZ p:=by
 obtain⟨_,h2,_,_,_,_,_,h8,h9,h10,h11,h12,h13,_⟩:=h;simp only[za,zuZ] at h2 h8 h9 h10 h11;have w1:wr (p.cur.used-p.cur.new)=p.cur.used-p.cur.new:=ze (by omega) (by omega);have w2:wr (p.tr+p.lr)=p.tr+p.lr:=ze (by omega) (by omega);have b1:=zF p.inp.book p.rate;have b2:=zF p.inp.perm p.rate;have b3:=zF (p.cur.used-p.cur.new) p.cl.next
 have b4:=zF (p.cur.used-p.cur.new) p.rate;have b5:=zF p.cur.expired p.cl.next
 have b6:=zc6 p.rate p.rows p.now;have ha:Ja p=[⟨1,zg p.inp.book p.rate⟩,⟨2,zg p.inp.perm p.rate⟩,⟨3,jL p.rate p.rows p.now+(zg (p.cur.used-p.cur.new) p.cl.next-zg (p.cur.used-p.cur.new) p.rate)⟩,⟨4,p.tr+p.lr⟩,⟨5,p.am⟩,⟨6,zg p.cur.expired p.cl.next⟩,⟨7,p.inp.up⟩]:=by unfold Ja zgC;rw[w1,w2,Int.add_comm (_-_) (jL _ _ _)]
 unfold ql JZ;rw[ha];dsimp only;have hD: -8000000000000000≤jL p.rate p.rows p.now+(zg (p.cur.used-p.cur.new) p.cl.next-zg (p.cur.used-p.cur.new) p.rate)∧jL p.rate p.rows p.now+(zg (p.cur.used-p.cur.new) p.cl.next-zg (p.cur.used-p.cur.new) p.rate)≤8000000000000000:=by have r1:(8000000000002*(p.rows.length:Int))≤8000000000002*900:=zwJ (by omega) (by omega);omega
 generalize jL p.rate p.rows p.now+(zg (p.cur.used-p.cur.new) p.cl.next-zg (p.cur.used-p.cur.new) p.rate)=D at *;have e:zgR [⟨1,zg p.inp.book p.rate⟩,⟨2,zg p.inp.perm p.rate⟩,⟨3,D⟩,⟨4,p.tr+p.lr⟩,⟨5,p.am⟩,⟨6,zg p.cur.expired p.cl.next⟩,⟨7,p.inp.up⟩]=zg p.inp.book p.rate+(zg p.inp.perm p.rate+(D+(p.tr+p.lr+(p.am+(zg p.cur.expired p.cl.next+p.inp.up))))):=by unfold zgR;rw[zg0 (fun x:It=>x.n) 8000000000000000 (by omega) (by omega) _ 0 0 (by simp) (by omega) (by simp;omega)];simp
 rw[e];have e2:([⟨1,zg p.inp.book p.rate⟩,⟨2,zg p.inp.perm p.rate⟩,⟨3,D⟩,⟨4,p.tr+p.lr⟩,⟨5,p.am⟩,⟨6,zg p.cur.expired p.cl.next⟩,⟨7,p.inp.up⟩].map fun x:It=>x.n).sum=zg p.inp.book p.rate+(zg p.inp.perm p.rate+(D+(p.tr+p.lr+(p.am+(zg p.cur.expired p.cl.next+p.inp.up))))):=by simp
 rw[e2,show wr (p.total-_)=_ from ze (by omega) (by omega)]
theorem YE{l:List Li}(h:yo l=true):l.length≤20∧jA 0 l=true∧(l.map (·.n)).sum=0:=by simp[yo] at h;exact⟨h.1.1,h.1.2,h.2⟩
theorem QI:∀{l:List Li} {a:Int},jA a l=true→∀x∈l,a<x.a∧x.a≤7
 |[],a,_,x,hx=>by cases hx
 |y::l,a,h,x,hx=>by
  simp[jA] at h;rcases zu4.1 hx with rfl|hx
  ·exact h.1.1
  ·have:=QI h.2 x hx;omega
theorem za7(a:Int):jb [] a=0:=rfl
theorem YU(x:Li)(l:List Li)(a:Int):jb (x::l) a=if x.a=a then x.n+jb l a else jb l a:=by
 unfold jb;by_cases h:x.a=a
 ·simp[h]
 ·simp[h]
theorem zef(l m:List Li)(a:Int):jb (l++m) a=jb l a+jb m a:=by
 induction l with
 |nil=>simp[za7]
 |cons x l ih=>
  rw[zv9,YU,YU,ih];split<;>omega
theorem zbK:∀{l:List Li} {a:Int},(∀x∈l,x.a≠a)→jb l a=0
 |[],_,_=>rfl
 |x::l,a,h=>by rw[YU,zuV (h x (by simp)),zbK fun y hy=>h y (by simp[hy])]
theorem zaj:∀{l:List Li} {a:Int},jA a l=true→∀x∈l,jb l x.a=x.n
 |[],a,_,x,hx=>by cases hx
 |y::l,a,h,x,hx=>by
  simp[jA] at h;have hg:=QI h.2;rw[YU];rcases zu4.1 hx with rfl|hx
  ·rw[zuT rfl,zbK fun z hz e=>by have:=hg z hz;omega];omega
  ·have:=hg x hx;rw[zuV (by omega)];exact zaj h.2 x hx
theorem zoV(a:Int):∀(l:List Li),(∀x∈l,za x.n=true)→-(100000000000*(l.length:Int))≤jb l a∧jb l a≤100000000000*(l.length:Int):=zgP a
structure JoV(js:List Jo):Prop where
 len:js.length≤200
 seq:∀k (h:k<js.length),js[k].seq=(k:Int)+1
 chk:∀j∈js,yo j.l=true
 kd:∀j∈js,(j.kind=1∧j.of=0)∨j.kind=2
 tr:∀id,(j7 (ofJ id 399 js)).all (fun x=>za x.n)=true
theorem JoV.nil:JoV []:=⟨by simp,(fun k h=>by simp at h),(fun j h=>by cases h),(fun j h=>by cases h),(fun id=>by simp[j7,ofJ,za7])⟩
theorem zqt{l:List Li}(h:yo l=true):zaD l=true:=by obtain⟨h1,h2,_⟩:=YE h;have:=qt l 0 h2;simp[zaD];exact⟨by omega,this⟩
theorem zq2{l:List Li}(h:yo l=true)(a:Int):zob l a=jb l a:=by unfold zob;rw[zuT (zqt h)]
theorem zhX(j:Jo)(s:List Jo)(id:ByteArray)(upto:Int):ofJ id upto (j::s)=if j.id==id&&decide (j.p≤upto) then j.l++ofJ id upto s else ofJ id upto s:=by unfold ofJ;rw[zwK];split<;>simp
theorem zq7(s r:List Jo)(id:ByteArray)(upto:Int):ofJ id upto (s++r)=ofJ id upto s++ofJ id upto r:=by unfold ofJ;rw[zwG,zvq]
theorem zcS(id:ByteArray)(a upto:Int):∀(s:List Jo) (n:Int) (k:Nat),(∀j∈s,yo j.l=true)→k+s.length≤200→(-(2000000000000*(k:Int))≤n∧n≤2000000000000*(k:Int))→s.foldl (zlu id a upto) n=n+jb (ofJ id upto s) a
 |[],n,k,_,_,_=>by simp[ofJ,za7]
 |j::s,n,k,hc,hk,hn=>by
  simp only[zvA] at hk;have hj:=hc j (by simp);rw[zwD,zhX];have hb:=zoV a j.l (qt j.l 0 (YE hj).2.1);have hl:=(YE hj).1;have e:zlu id a upto n j=if j.id==id&&decide (j.p≤upto) then n+jb j.l a else n:=by
   unfold zlu;split
   ·rw[zq2 hj];exact ze (by omega) (by omega)
   ·rfl
  rw[e];split
  ·rw[zcS id a upto s _ (k+1) (fun q hq=>hc q (by simp[hq])) (by omega) (by omega),zef];omega
  ·exact zcS id a upto s n (k+1) (fun q hq=>hc q (by simp[hq])) (by omega) (by omega)
theorem zsO{js:List Jo}(h:JoV js)(id:ByteArray)(a upto:Int):zcR js id a upto=jb (ofJ id upto js) a:=by unfold zcR;rw[zcS id a upto js 0 0 h.chk (by have:=h.len;omega) (by omega),zxr]
theorem zhl:∀{js:List Jo} (n:Nat),(∀k (h:k<js.length),js[k].seq=(k:Int)+1+n)→∀of:Int,js.find? (zdC of)=if 1+(n:Int)≤of then js[(of-1-n).toNat]? else none
 |[],n,_,of=>by simp
 |j::s,n,h,of=>by
  have h0:=h 0 (by simp);simp at h0;rw[zxu];by_cases e:j.seq=of
  ·have:zdC of j=true:=by simp[zdC,e]
   rw[this];simp only;rw[zuT (by omega),show(of-1-(n:Int)).toNat=0 by omega];rfl
  ·have:zdC of j=false:=by simp[zdC,e]
   rw[this];simp only;rw[zhl (n+1) (fun k hk=>by have:=h (k+1) (by simp;omega);simp at this;omega) of];by_cases h1:1+(n:Int)≤of
   ·rw[zuT (by omega),zuT h1,show(of-1-(n:Int)).toNat=(of-1-((n+1:Nat):Int)).toNat+1 by omega];rfl
   ·rw[zuV (by omega),zuV h1]
theorem zoB{l:List Li}(h:∀x∈l,za x.n=true):yc l=yI l:=by unfold yc yI;refine zvz fun x hx=> ?_;have:=h x hx;simp[za] at this;rw[show wr (-x.n)= -x.n from ze (by omega) (by omega)]
theorem zfm:∀(a b:List Li),zd6 a b=zd7 a b
 |[],[]=>rfl
 |[],_::_=>rfl
 |_::_,[]=>rfl
 |x::a,y::b=>by have ih:=zfm a b;unfold zd6 zd7 at ih⊢;rw[QY,ih,zu7,zu7,List.cons_beq_cons];rfl
theorem zbA{l:List Li}:(j7 l).all (fun x=>za x.n)=true↔∀a:Int,1≤a→a≤7→za (jb l a)=true:=by
 unfold j7;rw[zva];constructor
 ·intro h a h1 h2;by_cases h0:jb l a=0
  ·rw[h0];rfl
  ·have e:((a-1).toNat:Int)+1=a:=by omega
   have:=h ⟨((a-1).toNat:Int)+1,jb l (((a-1).toNat:Int)+1)⟩ (zvQ.2 ⟨zvZ.2 ⟨(a-1).toNat,zwq.2 (by omega),rfl⟩,by rw[e];simpa using h0⟩);rw[e] at this;exact this
 ·intro h x hx;obtain⟨h1,_⟩:=zvQ.1 hx;obtain⟨k,hk,rfl⟩:=zvZ.1 h1;have:=zwq.1 hk;exact h _ (by omega) (by omega)
theorem zq9{js:List Jo}(h:JoV js){id:ByteArray}{l:List Li}(hc:yo l=true):Zo js id l=(j7 (ofJ id 399 js++l)).all fun x=>za x.n:=by
 obtain⟨h1,h2,_⟩:=YE hc;have hm:=qt l 0 h2;have hb:=fun a=>zsO h id a 399;have ht:=zbA.1 (h.tr id);rw[zxs,zbA];unfold Zo;rw[zva];have w:∀x∈l,wr (zcR js id x.a 399+x.n)=jb (ofJ id 399 js) x.a+x.n:=fun x hx=>by rw[hb];have:=QI h2 x hx;have a1:=ht x.a (by omega) (by omega);have a2:=hm x hx;simp[za] at a1 a2;exact ze (by omega) (by omega)
 constructor
 ·intro hx a b1 b2;rw[zef];by_cases he:∃x∈l,x.a=a
  ·obtain⟨x,hxl,rfl⟩:=he;rw[zaj h2 x hxl,←w x hxl];exact hx x hxl
  ·rw[zbK fun x hx e=>he ⟨x,hx,e⟩,zx7];exact ht a b1 b2
 ·intro hx x hxl;rw[w x hxl];have:=QI h2 x hxl;have:=hx x.a (by omega) (by omega)
  rwa [zef,zaj h2 x hxl] at this
theorem zrm{js:List Jo}(h:JoV js){of:Int}(ho:1≤of):js.any (zii of)=js.any fun k=>k.of==of:=by
 rw[zxs,zwy,zwy];constructor
 ·rintro⟨j,hj,h1⟩;simp[zii] at h1;exact⟨j,hj,by simpa using h1.2⟩
 ·rintro⟨j,hj,h1⟩;simp at h1;refine⟨j,hj,?_⟩;rcases h.kd j hj with⟨_,h2⟩|h2
  ·omega
  ·simp[zii,h2,h1]
def noD(s:List Jo)(id:ByteArray)(p of:Int):Int:=match s[(of-1).toNat]? with
 |some j=>if of<1∨¬(j.id==id&&j.p==p&&j.kind==1)=true then 3 else if s.any fun k=>k.of==of then 4 else 0
 |none=>3
theorem zd0(s:List Jo)(id:ByteArray)(p kind of:Int)(l:List Li):jj s id p kind of l=if id.size=0∨¬zl p=true∨(kind≠1∧kind≠2)∨(kind=1∧of≠0) then(0,1,s)
 else if(if kind=2 then noD s id p of else 0)≠0 then(0,(if kind=2 then noD s id p of else 0),s)
 else if¬yo l=true∨(kind=2∧¬zd7 l (yI ((s[(of-1).toNat]?.map (·.l)).getD []))=true) then(0,2,s)
 else if 200≤s.length then(0,5,s)
 else if¬(j7 (ofJ id 399 s++l)).all (fun x=>za x.n)=true then(0,6,s)
 else((s.length:Int)+1,0,s++[⟨(s.length:Int)+1,id,p,kind,of,l⟩]):=rfl
theorem zkZ{js:List Jo}(h:JoV js)(id:ByteArray)(p kind of:Int)(l:List Li):y9 js id p kind of l=jj js id p kind of l:=by
 rw[zd0];unfold y9;by_cases c1:id.size=0∨¬zl p=true∨(kind≠1∧kind≠2)∨(kind=1∧of≠0)
 ·rw[zuT c1,zuT c1]
 rw[zuV c1,zuV c1];simp only[not_or,Decidable.not_not,zwz] at c1;obtain⟨_,cp,ck,_⟩:=c1;have tail:∀l:List Li,yo l=true→(if 200≤js.length then((0:Int),(5:Int),js) else if¬Zo js id l=true then(0,6,js) else((js.length:Int)+1,0,js++[⟨(js.length:Int)+1,id,p,kind,of,l⟩]))=if 200≤js.length then(0,5,js) else if¬(j7 (ofJ id 399 js++l)).all (fun x=>za x.n)=true then(0,6,js) else((js.length:Int)+1,0,js++[⟨(js.length:Int)+1,id,p,kind,of,l⟩]):=fun l hc=>by rw[zq9 h hc]
 unfold zgl;by_cases k2:kind=2
 ·simp only[zuT k2];have hf:=zhl (js:=js) 0 (fun k hk=>by have:=h.seq k hk;omega) of;simp only[Int.natCast_zero,zx7,Int.sub_zero] at hf;have key:(JE js id p of).2=noD js id p of∧((JE js id p of).2=0→∃j,js[(of-1).toNat]? =some j∧(JE js id p of).1=j):=by
   unfold JE noD;rw[hf];by_cases ho:1≤of
   ·rw[zuT ho];cases hj:js[(of-1).toNat]? with
    |none=>exact⟨rfl,fun h=>by cases h⟩
    |some j=>
     have hm:j∈js:=zvy hj;have hk:=h.kd j hm;have e:(¬(j.id==id)=true∨j.p≠p∨j.kind=2)↔(of<1∨¬(j.id==id&&j.p==p&&j.kind==1)=true):=by
      simp only[zuS,zwi,zwz];constructor
      ·rintro(h1|h1|h1)
       ·exact .inr (.inl (.inl h1))
       ·exact .inr (.inl (.inr h1))
       ·exact .inr (.inr (by omega))
      ·rintro(h1|(h1|h1)|h1)
       ·omega
       ·exact .inl h1
       ·exact .inr (.inl h1)
       ·exact .inr (.inr (by omega))
     dsimp only;by_cases hc:¬(j.id==id)=true∨j.p≠p∨j.kind=2
     ·rw[zuT hc,zuT (e.1 hc)];exact⟨rfl,fun h=>by cases h⟩
     ·rw[zuV hc,zuV (fun h=>hc (e.2 h)),zrm h ho];split
      ·exact⟨rfl,fun h=>by cases h⟩
      ·exact⟨rfl,fun _=>⟨j,rfl,rfl⟩⟩
   ·rw[zuV ho];refine⟨?_,fun h=>by cases h⟩;cases js[(of-1).toNat]? with
    |none=>rfl
    |some j=>dsimp only;rw[zuT (.inl (by omega))]
  rw[←key.1];by_cases hn:(JE js id p of).2=0
  ·obtain⟨j,hj,he⟩:=key.2 hn;have hm:j∈js:=zvy hj;simp only[hn,ne_eq,not_true_eq_false,if_false,hj,he,zvf,zwM];by_cases hc:yo l=true
   ·rw[zfm,zoB (qt j.l 0 (YE (h.chk j hm)).2.1)];simp only[hc,not_true_eq_false,if_false,false_or,k2,true_and];by_cases hs:zd7 l (yI j.l)=true
    ·simp only[hs,not_true_eq_false,if_false];subst k2;exact tail l hc
    ·simp only[hs,not_false_eq_true,if_true];simp
   ·simp[hc]
  ·simp only[hn,ne_eq,not_false_eq_true,if_true]
 ·simp only[zuV k2,ne_eq,not_true_eq_false,if_false];by_cases hc:yo l=true
  ·simp only[hc,not_true_eq_false,if_false,false_or,k2,false_and];exact tail l hc
  ·simp[hc]
theorem zoq{js:List Jo}(h:JoV js){id:ByteArray}{p kind of:Int}{l:List Li}{seq:Int}{js':List Jo}(e:jj js id p kind of l=(seq,0,js')):JoV js'∧js'=js++[⟨seq,id,p,kind,of,l⟩]∧seq=(js.length:Int)+1∧yo l=true:=by
 rw[zd0] at e;split at e
 ·simp only[zuL] at e;omega
 rename_i c1;simp only[not_or,Decidable.not_not,zwz] at c1;by_cases hn:(if kind=2 then noD js id p of else 0)≠0
 ·rw[zuT hn] at e;simp only[zuL] at e;exact absurd e.2.1 hn
 rw[zuV hn] at e;split at e
 ·simp only[zuL] at e;omega
 rename_i c2;split at e
 ·simp only[zuL] at e;omega
 rename_i c3;split at e
 ·simp only[zuL] at e;omega
 rename_i c4;simp only[zuL,true_and] at e;obtain⟨rfl,rfl⟩:=e;simp only[not_or,Decidable.not_not] at c2 c4;refine⟨⟨by simp;omega,fun k hk=> ?_,fun j hj=> ?_,fun j hj=> ?_,fun id2=> ?_⟩,rfl,rfl,c2.1⟩
 ·simp only[zuR,zuW] at hk;by_cases hkl:k<js.length
  ·rw[zwI hkl];exact h.seq k hkl
  ·obtain rfl:k=js.length:=by omega
   simp
 ·rcases zuX.1 hj with hj|hj
  ·exact h.chk j hj
  ·rw[zvm] at hj;subst hj;exact c2.1
 ·rcases zuX.1 hj with hj|hj
  ·exact h.kd j hj
  ·rw[zvm] at hj;subst hj;obtain⟨_,_,k1,k2⟩:=c1;show(kind=1∧of=0)∨kind=2;omega
 ·rw[zq7,zhX];split
  ·rename_i hid;simp at hid;obtain⟨hid,_⟩:=hid;rw[z2,zuZ] at hid;subst hid;simpa[ofJ] using c4
  ·have:=h.tr id2;simpa[ofJ] using this
end
end Go.Proofs.YtdmcfjkgopmlgaaGreatDoor.Ev.CA

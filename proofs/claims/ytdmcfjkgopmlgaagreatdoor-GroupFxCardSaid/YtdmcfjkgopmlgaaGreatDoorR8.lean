import Derived.Test.YtdmcfjkgopmlgaaGreatDoorR7
set_option linter.unusedVariables false
set_option linter.unusedSimpArgs false
set_option linter.unusedSectionVars false
namespace Go.Proofs.YtdmcfjkgopmlgaaGreatDoor.Ev.CA
open Go
section
attribute [-simp] List.length_flatMap getElem?_pos
theorem zmb{g g':XH}{A B:XO}{f:Int}{t:List Bool}(hT:JF g' (g.length+1) g.length f t)(hU:Upd (fun x=>x=g.length+1) (g++[A,B]) g'):∃w junk,(∀m,zw m junk)∧g'=g++[.own w 4 1 (t.flatMap qE++junk),.own 0 257 2 [xi f,.sl g.length w 0 t.length]]:=by
 obtain⟨w,junk,h0,h1,h2⟩:=hT;refine⟨w,junk,h0,zv0 fun j=> ?_⟩;have hl:=hU.len;simp at hl;rcases zxs j g.length with h|h|h
 ·rw[hU.same j (by omega),zq h,zq h]
 ·subst h;rw[h2];simp
 ·by_cases h3:j=g.length+1
  ·subst h3;rw[h1];simp
  ·rw[zvK (by omega),zvK (by simp;omega)]
def yW(js:List Jo)(e:Ent):Int×Ent×List Jo:=
 if(Yn e.touched).1≠0 then((Yn e.touched).1,e,js)
 else match e.cs.getLast? with
  |none=>(0,e,js)
  |some c=>
   let q:=jf js e.id c.p.inp.p 2 c.seq (yf (qa c.p))
   if q.2.1≠0 then(q.2.1,e,q.2.2)
   else(0,{e with s:={c.was with reg:=e.s.reg},cs:=e.cs.dropLast,touched:=(Yn e.touched).2},q.2.2)
theorem fzhU{W S:Nat→Prop}{g G J:XH}{K:List (Option Nat)}{O:XH}(hU:Upd S g G)(hd:zaF K=true)(h:KOs g.length J K O K O):FzH W g.length J K O g G G:=
 ⟨hU.len,hU.len,fun i o e=> .inl ⟨e,hU.old i o e⟩,h.at.1,zdb hd,h.at.2⟩
set_option maxRecDepth 8000 in
set_option maxHeartbeats 1000000 in
theorem zlE{g:XH}{o:Eo}{e:Ent}(h:EntP g o e)(hL:EntL e){si sk:Nat}{js:List Jo}(hs:qw g si sk js)(hsl:StoL js)(hne:si≠sk)(hd:si∉o.ids∧sk∉o.ids):
 Cl C (esS o si sk) 77 [.s (.ptr o.i 0 0),.s (.ptr si 0 0)] g fun u g'=>u=fi (yW js e).1∧(∃o',o'.i=o.i∧(∀j∈o'.ids,j∈o.ids∨g.length≤j)∧EntP g' o' (yW js e).2.1)∧qw g' si sk (yW js e).2.2∧Upg (esS o si sk) g g':=by
 have hP:=h;obtain⟨nd,⟨w,wf,junk,h0,hi,hc,hf⟩,hst,hr⟩:=h;have li:=zf hi;have lc:=zf hc;have hlt:=hP.lt;have lsi:si<g.length:=by obtain⟨w,h1,_⟩:=hs;exact zf h1
 have lsk:sk<g.length:=by obtain⟨w,_,h1⟩:=hs;exact zf h1
 have nn:=nd;simp[Eo.ids] at nn;refine Cl.ip rfl (zuF rfl) fun Ψ hΨ=> ?_;simp[hi,li];refine zb.go (zoM hst hL.st) (fun _ _ h=>h.elim) ?_;rintro u g' ⟨rfl,w1,rfl⟩;simp;refine zb.go (zmr (k:=g.length) (f:=e.first) (t:=e.touched) ⟨w1,[],fun m=>by simp[zw],by simp,by simp⟩ (by omega) hL.st) (fun x hx ee=> .inl (by omega)) ?_;rintro u g' ⟨rfl,hT,hU⟩;obtain⟨w2,j2,h2,rfl⟩:=zmb hT hU;clear hT hU;simp;refine zc (fun c1=> ?_) (fun c1=> ?_)
 ·simp at c1;simp;exact Gh.pure .i (hΨ _ _ (by unfold yW;rw[zuO c1];exact⟨rfl,⟨o,rfl,fun j hj=> .inl hj,hP⟩,hs,⟨zuL _,fun _ _ _=>rfl⟩⟩))
 simp at c1;have hcl:=hL.cl;have hlo:=hL.st.lo;have hhi:=hL.st.hi;have hn1:e.touched.length≠1:=by intro ee;simp[Yn,ee] at c1
 have c2:e.cs.length-1<e.cs.length:=by omega
 have hlast:e.cs.getLast? =some e.cs[e.cs.length-1]:=by rw[zxf,zuV c2]
 have hw:IntKind.i64.wrap ((e.cs.length:Int)-1)=((e.cs.length-1:Nat):Int):=by rw[ze (by omega) (by omega)];omega
 obtain⟨x1,x2⟩:=znb (junk:=junk) c2;obtain⟨hc1,hc2,hc3,hc4,hc5⟩:=hL.cs _ (zvk c2);generalize e.cs[e.cs.length-1]=c at *;obtain⟨X,hX⟩:∃X,X=e.cs.flatMap yH++junk:=⟨_,rfl⟩
 rw[←hX] at hc x1 x2;obtain⟨q,hq⟩:∃q,q=e.cs.length-1:=⟨_,rfl⟩
 rw[←hq] at hw x1 x2 c2;simp[hi,li,hc,lc,hw,c2,x2,yH,zF,pC,zT,zj,zD,show q*50+50≤X.length by omega,show¬X=[] from fun e=>by rw[e] at x1;simp at x1];refine zb.go0 (za4 c.p) ?_;have hlen:(qa c.p).length≤7:=by
  unfold qa;split
  ·exact zdP _
  ·simp
 simp;refine zb.go0 (J2 (RdX.lst _ (qa c.p)) (by omega)) ?_;have hlr:(yf (qa c.p)).length≤1000:=by
  have:(yf (qa c.p)).length=(qa c.p).length:=by simp[yf]
  omega
 generalize hrv:yf (qa c.p)=ls at *;simp[hi,li];refine zb.go (ziv hs.app hne hsl e.id c.p.inp.p 2 c.seq rfl hlr) (fun z hz ee=> .inr (.inr ee)) ?_;rintro u G0 ⟨rfl,hG,hS0⟩;obtain⟨G,rfl,hS⟩:=hS0.cut (fun j hj=>hj.elim (fun e=>e▸lsi) (fun e=>e▸lsk));have hGl:G.length=g.length:=hS.len;have hGj:∀j,j≠si→j≠sk→G[j]? =g[j]? :=fun j h2 h3=>hS.same j (by simp[h2,h3]);have hGe:∀j∈o.ids,G[j]? =g[j]? :=fun j hj=>hGj j (fun ee=>hd.1 (ee▸hj)) (fun ee=>hd.2 (ee▸hj));have hPG:EntP G o e:=hP.same hGe;have hGs:qw G si sk (jf js e.id c.p.inp.p 2 c.seq ls).2.2:=hG.sam (zq (by omega)).symm (zq (by omega)).symm;have hSU:Upd (esS o si sk) g G:=⟨hS.len,fun j hj=>hS.same j fun ee=>hj (.inr ee),fun j x hx=>by
  by_cases hj:j=si∨j=sk
  ·exact .inr (hGs.old lsk j hj x hx)
  ·rw[hS.same j hj] at hx;exact .inl hx⟩
 have li':o.i<G.length:=by omega
 have hi':G[o.i]? =_:=(hGe o.i (by simp[Eo.ids])).trans hi;have hc':G[o.c]? =_:=(hGe o.c (by simp[Eo.ids])).trans hc;have lc':=zf hc'
 have he:yW js e=if(jf js e.id c.p.inp.p 2 c.seq ls).2.1≠0 then((jf js e.id c.p.inp.p 2 c.seq ls).2.1,e,(jf js e.id c.p.inp.p 2 c.seq ls).2.2)
  else(0,{e with s:={c.was with reg:=e.s.reg},cs:=e.cs.dropLast,touched:=(Yn e.touched).2},(jf js e.id c.p.inp.p 2 c.seq ls).2.2):=by
  unfold yW;rw[zuQ (by simp[c1]),hlast];simp only[hrv]
 rw[←hGl];generalize jf js e.id c.p.inp.p 2 c.seq ls=v at *;obtain⟨seq,pe,js'⟩:=v;simp;refine zc (fun c3=> ?_) (fun c3=> ?_)
 ·simp at c3;simp;rw[zuO (by simpa using c3)] at he;refine qZ hSU (by simp) (hΨ _ _ (by rw[he];exact⟨rfl,⟨o,rfl,fun j hj=> .inl hj,hPG⟩,hGs,⟨by omega,fun j _ hj=>hSU.same j hj⟩⟩))
 simp at c3;rw[zuQ (by simpa using c3)] at he;have hci:¬o.c=o.i:=by omega
 have hXn:¬X=[]:=fun e=>by rw[e] at x1;simp at x1
 clear hG hS0;have hCl:=fun G:XH=>zhs (g:=G) c.was (RdX.lst G c.was.filed) hc4 (by have:=hc3.len;omega);refine zi5 18 [(10,6),(14,6),(17,6)] [0] 17 1 7 [] [(0,3),(0,6)] [66,72] (fun x=>x=o.i) (by decide) (by decide) (by decide) (by decide) (by decide) (by decide) (by decide) ?_ ?_<;>simp only[zu3,zvs,zvd,zu8]
 ·simp;refine zb.go (hCl _) (fun _ _ h=>h.elim) ?_;rintro u g' ⟨w3,rfl,rfl⟩;simp[hi',li',hc',lc',hw,c2,hXn,show q≤e.cs.length by omega]
 ·simp;refine zb.go (hCl _) (fun _ _ h=>h.elim) ?_;rintro u g' ⟨w3,rfl,rfl⟩;simp[hi',li',hc',lc',hw,c2,hXn,hci,show q≤e.cs.length by omega];refine⟨.inr (.inl (by simp[Eo.ids])),?_⟩;rw[hGl];have lx:∀n:Int,lvV g.length (xi n):=fun n=>by simp
  have lr:o.r<g.length:=hlt o.r (by simp[Eo.ids]);have lt2:∀m,zw m ((Yn e.touched).2.flatMap qE++j2):=fun m=>by simp[h2]
  obtain⟨ys,hys⟩:=zxg.1 hlast;have hdl:e.cs.dropLast=ys:=by rw[hys,zxc]
  have hyl:ys.length=q:=by rw[hq,hys];simp
  subst hyl;have hX2:X=ys.flatMap yH++(yH c++junk):=by rw[hX,hys];simp
  let X2:XO:= .own 0 108 14 [xs e.id,xs e.j,.ptr (g.length+1) 0 0,xi c.was.book,xi c.was.perm,xi c.was.judge,xi c.was.cap,xi c.was.life,xi c.was.up,.sl (g.length+2) w3 0 c.was.filed.length,lpV c.was.l,.ptr o.r 0 0,.sl o.c w 0 ys.length,xi e.first];refine Gh.keep (g2:=G.set o.i X2) [some 0,some 1,some 3] [.own w2 4 1 ((Yn e.touched).2.flatMap qE++j2),.own 0 257 2 [xi e.first,.sl g.length w2 0 (Yn e.touched).2.length],.own w3 3 1 (c.was.filed.flatMap zY)] (FzH.put (fzhU hSU rfl ?_) o.i 0 108 14 (.inl (by simp[Eo.ids])) ?_) (.s (.lt (lx _))) (hΨ _ _ ?_)
  ·exact⟨⟨_,_,_,_,_,rfl,rfl,.lts (lt2 _)⟩,⟨_,_,_,_,_,rfl,rfl,.cons (.lt (lx _)) (.cons (.ksl (j:=0) (k:=0) rfl) .nil)⟩,⟨_,_,_,_,_,rfl,rfl,.lts (by simp)⟩,trivial⟩
  ·exact .cons (.lt (by simp)) (.cons (.lt (by simp)) (.cons (.kptr (j:=1) (k:=1) rfl) (.cons (.lt (lx _)) (.cons (.lt (lx _)) (.cons (.lt (lx _)) (.cons (.lt (lx _)) (.cons (.lt (lx _)) (.cons (.lt (lx _)) (.cons (.ksl (j:=2) (k:=3) rfl) (.cons (.lt (by simp)) (.cons (.lt (by simp[lr])) (.cons (.lt (by simp[lc])) (.cons (.lt (lx _)) .nil)))))))))))))
  ·have ls2:(G.set o.i X2).length=g.length:=by rw[zvi,hGl]
   have hnew:∀(k:Nat) (O:XH),(G.set o.i X2++O)[g.length+k]? =O[k]? :=fun k O=>by rw[zuN (by omega),ls2];congr 1;omega
   have hnew0:∀(O:XH),(G.set o.i X2++O)[g.length]? =O[0]? :=fun O=>hnew 0 O;have hold:∀(j:Nat) (O:XH),j<g.length→j≠o.i→(G.set o.i X2++O)[j]? =G[j]? :=fun j O h1 h3=>by rw[zuK (by omega),zuR (fun e=>h3 e.symm)]
   have nsi:o.i≠si:=fun ee=>hd.1 (ee▸(by simp[Eo.ids]));have nsk:o.i≠sk:=fun ee=>hd.2 (ee▸(by simp[Eo.ids]));have hRg:G[o.r]? =_:=hPG.r;rw[he];refine⟨rfl,⟨⟨o.i,g.length+1,g.length,o.r,o.c,g.length+2⟩,rfl,?_,⟨?_,⟨w,w3,yH c++junk,fun m=>by simp[h0],?_,?_,?_⟩,⟨w2,j2,h2,?_,?_⟩,?_⟩⟩,?_,⟨by simp;omega,fun j h1 h3=> ?_⟩⟩
   ·intro j hj;simp[Eo.ids] at hj⊢;omega
   ·simp[Eo.ids];omega
   ·show(G.set o.i X2++_)[o.i]? =_;rw[zuK (by omega),zu1 li'];simp only[hdl];rfl
   ·show(G.set o.i X2++_)[o.c]? =_;rw[hold _ _ lc (by omega),hc'];simp only[hdl,hX2]
   ·show(G.set o.i X2++_)[g.length+2]? =_;rw[hnew];rfl
   ·show(G.set o.i X2++_)[g.length+1]? =_;rw[hnew];rfl
   ·show(G.set o.i X2++_)[g.length]? =_;rw[hnew0];rfl
   ·show(G.set o.i X2++_)[o.r]? =_;rw[hold _ _ lr (by omega),hRg]
   ·exact(hGs.sam (hold si _ lsi nsi.symm) (hold sk _ lsk nsk.symm))
   ·rw[hold _ _ h1 (fun ee=>h3 (.inl (by rw[ee];simp[Eo.ids]))),hSU.same j h3]
structure Gi where
 i:Nat
 l:Nat
 t:Nat
 tk:Nat
 s:Nat
 sk:Nat
 c:Nat
def Gi.ids(o:Gi):List Nat:=[o.i,o.l,o.t,o.tk,o.s,o.sk,o.c]
structure Gm where
 t:List Rw
 js:List Jo
 ms:List (Eo×Ent)
 c:List Pa
def YX(x:Eo×Ent):List XV:=[xs x.2.id,xs x.2.j,xi x.2.fx,xi x.2.first,.ptr x.1.i 0 0]
theorem qD(x:Eo×Ent):(YX x).length=5:=rfl
def Gm.ids(m:Gm):List Nat:=m.ms.flatMap fun x=>x.1.ids
structure GrpP(g:XH)(o:Gi)(m:Gm):Prop where
 nd:(o.ids++m.ids).Nodup
 i:∃w,g[o.i]? =some (.own 0 66 4 [.sl o.l w 0 m.ms.length,.ptr o.t 0 0,.ptr o.s 0 0,.ptr o.c 0 0])∧g[o.l]? =some (.own w 69 5 (m.ms.flatMap YX))
 t:Yc 145 140 g o.t o.tk m.t
 s:qw g o.s o.sk m.js
 c:zar g o.c m.c
 e:∀x∈m.ms,EntP g x.1 x.2
structure GrpL(m:Gm):Prop where
 t:m.t.length≤24
 s:StoL m.js
 n:m.ms.length≤4
 c:m.c.length≤100
 cu:m.c.Pairwise unP
 e:∀x∈m.ms,EntL x.2
theorem zqi{g:XH}{x:Eo×Ent}(h:EntP g x.1 x.2){n:Nat}(hn:g.length≤n):zw n (YX x):=by have:=h.lt x.1.i (by simp[Eo.ids]);simp[YX];omega
theorem GrpP.lt{g:XH}{o:Gi}{m:Gm}(h:GrpP g o m):∀i∈o.ids++m.ids,i<g.length:=by
 obtain⟨nd,⟨w,h1,h2⟩,⟨w1,h3,h4⟩,⟨w2,h5,h6⟩,h7,h8⟩:=h;have h7:g[o.c]? =_:=h7;intro i hi;rw[zuY] at hi;rcases hi with hi|hi
 ·simp[Gi.ids] at hi;rcases hi with rfl|rfl|rfl|rfl|rfl|rfl|rfl
  ·exact zf h1
  ·exact zf h2
  ·exact zf h3
  ·exact zf h4
  ·exact zf h5
  ·exact zf h6
  ·exact zf h7
 ·unfold Gm.ids at hi;rw[zvR] at hi;obtain⟨x,hx,hi⟩:=hi;exact(h8 x hx).lt i hi
theorem GrpP.same{g G:XH}{o:Gi}{m:Gm}(h:GrpP g o m)(hs:∀i∈o.ids++m.ids,G[i]? =g[i]?):GrpP G o m:=by
 obtain⟨nd,⟨w,h1,h2⟩,⟨w1,h3,h4⟩,⟨w2,h5,h6⟩,h7,h8⟩:=h;have q:∀i,i∈o.ids→G[i]? =g[i]? :=fun i hi=>hs i (zvX _ hi);have h7:g[o.c]? =_:=h7;refine⟨nd,⟨w,?_,?_⟩,⟨w1,?_,?_⟩,⟨w2,?_,?_⟩,?_,fun x hx=>(h8 x hx).same fun i hi=>hs i (zwt _ (zvR.2 ⟨x,hx,hi⟩))⟩
 ·rw[q _ (by simp[Gi.ids])];exact h1
 ·rw[q _ (by simp[Gi.ids])];exact h2
 ·rw[q _ (by simp[Gi.ids])];exact h3
 ·rw[q _ (by simp[Gi.ids])];exact h4
 ·rw[q _ (by simp[Gi.ids])];exact h5
 ·rw[q _ (by simp[Gi.ids])];exact h6
 ·unfold zar;rw[q _ (by simp[Gi.ids])];exact h7
theorem GrpP.app{g J:XH}{o:Gi}{m:Gm}(h:GrpP g o m):GrpP (g++J) o m:=h.same fun i hi=>zq (h.lt i hi)
theorem znG(g:XH):Cl C (fun _=>False) 13 [] g fun u g'=>∃o J,(∀i∈o.ids,g.length≤i)∧u= .s (.ptr o.i 0 0)∧g'=g++J∧GrpP g' o ⟨[],[],[],[]⟩:=by
 refine Cl.ip rfl (zuF rfl) fun Ψ hΨ=> ?_;simp;refine zb.go (zud _) (fun _ _ h=>h.elim) ?_;rintro u g' ⟨rfl,rfl⟩;simp;refine zb.go (zt9 _) (fun _ _ h=>h.elim) ?_;rintro u g' ⟨rfl,rfl⟩;simp;refine zb.go (zsT _) (fun _ _ h=>h.elim) ?_;rintro u g' ⟨rfl,rfl⟩;simp;refine Gh.keep [some 0,some 1,some 2,some 3,some 4,some 5,none] [.own 0 145 1 [.sl (g.length+1) 0 0 0],.own 0 140 4 [],.own 0 175 1 [.sl (g.length+3) 0 0 0],.own 0 184 6 [],.own 0 177 1 [zgr []],.own 0 66 4 [.sl (g.length+6) 0 0 0,.ptr g.length 0 0,.ptr (g.length+2) 0 0,.ptr (g.length+4) 0 0],.own 0 69 5 []] (fzhK rfl ?_) (.s (.kptr (j:=5) (k:=5) rfl)) (hΨ _ _ ?_)
 ·exact⟨⟨_,_,_,_,_,rfl,rfl,.cons (.ksl (j:=1) (k:=1) rfl) .nil⟩,⟨_,_,_,_,_,rfl,rfl,.nil⟩,⟨_,_,_,_,_,rfl,rfl,.cons (.ksl (j:=3) (k:=3) rfl) .nil⟩,⟨_,_,_,_,_,rfl,rfl,.nil⟩,⟨_,_,_,_,_,rfl,rfl,.lts (by simp)⟩,⟨_,_,_,_,_,rfl,rfl,.cons (.gh (j:=6) rfl rfl) (.cons (.kptr (j:=0) (k:=0) rfl) (.cons (.kptr (j:=2) (k:=2) rfl) (.cons (.kptr (j:=4) (k:=4) rfl) .nil)))⟩,⟨_,_,rfl⟩,trivial⟩
 ·refine⟨⟨g.length+5,g.length+6,g.length,g.length+1,g.length+2,g.length+3,g.length+4⟩,_,?_,rfl,rfl,?_,⟨0,by simp,by simp⟩,⟨0,by simp,by simp⟩,⟨0,by simp,by simp⟩,by simp[zar],fun x hx=>by simp at hx⟩
  ·simp[Gi.ids]
  ·simp[Gi.ids,Gm.ids]
def zcp(id:ByteArray)(x:Eo×Ent):Bool:=x.2.id==id
def yn(m:Gm)(id:ByteArray):Option (Eo×Ent):=m.ms.find? (zcp id)
theorem keyMP(x:Eo×Ent)(id:ByteArray){g:XH}{a:Nat}(ha:g[a]? =some (.own 0 9 1 [xs id])):Cl C (fun _=>False) 69 [.agg (YX x),.s (.ptr a 0 0)] g fun u g'=>u=fb (zcp id x)∧g'=g:=by have la:=zf ha;refine Cl.ip rfl (zuF rfl) fun Ψ hΨ=> ?_;simp[YX,ha,la,jJ];exact Gh.pure (.s (.lt (by simp))) (hΨ _ _ ⟨by simp[zcp,yj],rfl⟩)
def zbx(q:Option (Eo×Ent)):XF:=match q with
 |some x=> .tup [.agg (YX x),fb true]
 |none=> .tup [.agg [xs ⟨#[]⟩,xs ⟨#[]⟩,xi 0,xi 0,.v .nilp],fb false]
theorem zaS{g:XH}{o:Gi}{m:Gm}(h:GrpP g o m)(hL:GrpL m)(id:ByteArray):Cl C (fun _=>False) 28 [.s (.ptr o.i 0 0),fs id] g fun u g'=>u=zbx (yn m id)∧g'=g:=by
 obtain⟨nd,⟨w,hi,hl⟩,_,_,_,he⟩:=h;have li:=zf hi;have ll:=zf hl;have hn:=hL.n;refine Cl.ip rfl (zuF rfl) fun Ψ hΨ=> ?_;simp[hi,li];refine zb.go0 (Yu (q:=zcp id) (f:=68) rfl qD (by decide) (RdX.sl qD hl).app (by omega) (.inr ⟨g.length+2,69,[],[.s (.ptr g.length 0 0)],rfl,by simp,fun x _=>keyMP x id (by simp)⟩)) ?_;rcases Y2 (zcp id) m.ms 0 with⟨f1,f2⟩|⟨q,f1,hq,f2⟩
 ·simp[f1];exact Gh.pure (u':=zbx none) (.t2 (.agg (.lts (by simp))) (.s (.lt (by simp)))) (hΨ _ _ ⟨by unfold yn;rw[f2],rfl⟩)
 ·rw[zvn] at f1;obtain⟨p1,cs1,o1,b1,b2,b3,b4,b5,b6⟩:=(RdX.sl qD hl).atJ qD (by decide) hq;have hx:=zqi (he _ (zvk hq)) (zuL _);have hf:yn m id=some m.ms[q]:=f2;generalize m.ms[q]=x at *;simp[f1,show¬(q:Int)<0 by omega];simp[hi,li,hq,b1,b2,b3,b4,b5,YX];exact Gh.pure (u':=zbx (some x)) (.t2 (.agg (.lts hx)) (.s (.lt (by simp)))) (hΨ _ _ ⟨by rw[hf],rfl⟩)
abbrev jM(m:Cmd):List XV:=[xi m.k,xs m.id,xs m.id2,xs m.j,xi m.c,xi m.d,xi m.y,xi m.z,xi m.p,xi m.n,xi m.r,xi m.x]
theorem Sam.upg{S:Nat→Prop}{g J g':XH}(h:Sam S (g++J) g'):Upg S g g':=⟨by rw[h.len];simp,fun j hj hn=>by rw[h.same j hn,zq hj]⟩
theorem Upg.cut{S:Nat→Prop}{g J g':XH}(h:Upg S (g++J) g'):Upg S g g':=⟨zvz (by simp) h.le,fun j hj hn=>by rw[h.same j (by simp;omega) hn,zq hj]⟩
theorem Upg.junk{S:Nat→Prop}{g J:XH}:Upg S g (g++J):=⟨by simp,fun j hj _=>zq hj⟩
theorem Upg.mono{S T:Nat→Prop}{g g':XH}(h:Upg S g g')(hs:∀j,S j→T j):Upg T g g':=⟨h.le,fun j hj hn=>h.same j hj fun k=>hn (hs j k)⟩
noncomputable def yi(t:List Rw)(js:List Jo)(e:Ent)(c:Cmd):Int×Ent×List Jo:=
 if c.k=3 then((zA e (QY e.s c.n)).1,(zA e (QY e.s c.n)).2,js)
 else if c.k=4 then((zA e (Q1 e.s c.n)).1,(zA e (Q1 e.s c.n)).2,js)
 else if c.k=5 then((zA e (zhQ e.s c.c c.y c.n)).1,(zA e (zhQ e.s c.c c.y c.n)).2,js)
 else if c.k=6 then((zA e (zih e.s c.c c.y c.d c.z c.n)).1,(zA e (zih e.s c.c c.y c.d c.z c.n)).2,js)
 else if c.k=7 then((zA e (zbD e.s c.r)).1,(zA e (zbD e.s c.r)).2,js)
 else if c.k=8 then((zA e (zbq e.s c.r c.y)).1,(zA e (zbq e.s c.r c.y)).2,js)
 else if c.k=9 then((zA e (jD e c.p c.n)).1,(zA e (jD e c.p c.n)).2,js)
 else if c.k=11 then yv t js e
 else yW js e
theorem GrpP.apart{g:XH}{o:Gi}{m:Gm}(h:GrpP g o m){x:Eo×Ent}(hx:x∈m.ms):o.s∉x.1.ids∧o.sk∉x.1.ids:=by have hnd:=h.nd;rw[zvW] at hnd;have hm:∀j∈x.1.ids,j∈m.ids:=fun j hj=>zvR.2 ⟨x,hx,hj⟩;exact⟨fun h1=>hnd.2.2 o.s (by simp[Gi.ids]) o.s (hm _ h1) rfl,fun h1=>hnd.2.2 o.sk (by simp[Gi.ids]) o.sk (hm _ h1) rfl⟩
theorem GrpP.sne{g:XH}{o:Gi}{m:Gm}(h:GrpP g o m):o.s≠o.sk:=by have hnd:=h.nd;rw[zvW] at hnd;have:=hnd.1;simp[Gi.ids] at this;omega
theorem zqy{g:XH}{o:Gi}{m:Gm}(h:GrpP g o m)(hL:GrpL m){x:Eo×Ent}(hx:x∈m.ms)(c:Cmd)(hp:c.p≤9223372036854775807):Cl C (esS x.1 o.s o.sk) 29 [.s (.ptr o.i 0 0),.s (.ptr x.1.i 0 0),.agg (jM c)] g fun u g'=>u=fi (yi m.t m.js x.2 c).1∧(∃o',o'.i=x.1.i∧(∀j∈o'.ids,j∈x.1.ids∨g.length≤j)∧EntP g' o' (yi m.t m.js x.2 c).2.1)∧qw g' o.s o.sk (yi m.t m.js x.2 c).2.2∧Upg (esS x.1 o.s o.sk) g g':=by
 have hE:=h.e x hx;have hEL:=hL.e x hx;have hd:=h.apart hx;have hne:=h.sne;have hs:=h.s;have ht:=h.t;have htl:=hL.t;have hsl:=hL.s;have lsi:o.s<g.length:=h.lt _ (by simp[Gi.ids]);have lsk:o.sk<g.length:=h.lt _ (by simp[Gi.ids]);obtain⟨nd,⟨w,hi,hl⟩,_,_,_,_⟩:=h;have li:=zf hi;obtain⟨q,e⟩:=x;refine Cl.ip rfl (zuF rfl) fun Ψ hΨ=> ?_;have fin:∀(J g':XH) (d:Int×Sta),yi m.t m.js e c=((zA e d).1,(zA e d).2,m.js)→EntP g' q (zA e d).2→Sam (fun x=>x∈q.ids) (g++J) g'→Gh (esS q o.s o.sk) g Ψ (fi (zA e d).1) g':=fun J g' d h1 h2 h3=>
  Gh.here (hΨ _ _ (by
   rw[h1];exact⟨rfl,⟨q,rfl,fun j hj=> .inl hj,h2⟩,hs.app.sam (h3.same _ hd.1) (h3.same _ hd.2),(h3.mono fun j hj=> .inl hj).upg⟩))
 simp;refine zc (fun c3=> ?_) (fun c3=> ?_)
 ·simp at c3;simp;refine zb.go (zqj hE.app hEL.st c.n) (fun z hz ee=> .inr (.inl ee)) ?_;rintro u g' ⟨rfl,h2,h3⟩;simp;exact fin _ _ _ (by simp[yi,c3]) h2 h3
 simp at c3;refine zc (fun c4=> ?_) (fun c4=> ?_)
 ·simp at c4;simp;refine zb.go (zqn hE.app hEL.st c.n) (fun z hz ee=> .inr (.inl ee)) ?_;rintro u g' ⟨rfl,h2,h3⟩;simp;exact fin _ _ _ (by simp[yi,c3,c4]) h2 h3
 simp at c4;refine zc (fun c5=> ?_) (fun c5=> ?_)
 ·simp at c5;simp;refine zb.go (zqm hE.app hEL.st hEL.reg c.c c.y c.n) (fun z hz ee=> .inr (.inl ee)) ?_;rintro u g' ⟨rfl,h2,h3⟩;simp;exact fin _ _ _ (by simp[yi,c3,c4,c5]) h2 h3
 simp at c5;refine zc (fun c6=> ?_) (fun c6=> ?_)
 ·simp at c6;simp;refine zb.go (zja hE.app hEL.st hEL.reg c.c c.y c.d c.z c.n) (fun z hz ee=> .inr (.inl ee)) ?_;rintro u g' ⟨rfl,h2,h3⟩;simp;exact fin _ _ _ (by simp[yi,c3,c4,c5,c6]) h2 h3
 simp at c6;refine zc (fun c7=> ?_) (fun c7=> ?_)
 ·simp at c7;simp;refine zb.go (znw hE.app hEL.st c.r) (fun z hz ee=> .inr (.inl ee)) ?_;rintro u g' ⟨rfl,h2,h3⟩;simp;exact fin _ _ _ (by simp[yi,c3,c4,c5,c6,c7]) h2 h3
 simp at c7;refine zc (fun c8=> ?_) (fun c8=> ?_)
 ·simp at c8;simp;refine zb.go (zqk hE.app hEL.st c.r c.y) (fun z hz ee=> .inr (.inl ee)) ?_;rintro u g' ⟨rfl,h2,h3⟩;simp;exact fin _ _ _ (by simp[yi,c3,c4,c5,c6,c7,c8]) h2 h3
 simp at c8;refine zc (fun c9=> ?_) (fun c9=> ?_)
 ·simp at c9;simp[hi,li];refine zb.go (zql hE.app hEL (.ptr o.t 0 0) c.p c.n hp) (fun z hz ee=> .inr (.inl ee)) ?_;rintro u g' ⟨rfl,h2,h3⟩;simp;exact fin _ _ _ (by simp[yi,c3,c4,c5,c6,c7,c8,c9]) h2 h3
 simp at c9;refine zc (fun c11=> ?_) (fun c11=> ?_)
 ·simp at c11;simp[hi,li];refine zb.go (znu hE.app hEL ht.app (by omega) hs.app hsl hne hd) (fun z hz ee=> .inr ee) ?_;rintro u g' ⟨rfl,h2,h3,h4⟩;simp;exact Gh.here (hΨ _ _ (by rw[show yi m.t m.js e c=yv m.t m.js e by simp[yi,c3,c4,c5,c6,c7,c8,c9,c11]];exact⟨rfl,⟨q,rfl,fun j hj=> .inl hj,h2⟩,h3,h4.upg⟩))
 simp at c11;simp[hi,li];refine zb.go (zlE hE.app hEL hs.app hsl hne hd) (fun z hz ee=> .inr ee) ?_;rintro u g' ⟨rfl,⟨o',h1,h2,h3⟩,h4,h5⟩;simp;exact Gh.here (hΨ _ _ (by rw[show yi m.t m.js e c=yW m.js e by simp[yi,c3,c4,c5,c6,c7,c8,c9,c11]];exact⟨rfl,⟨o',h1,fun j hj=>(h2 j hj).elim .inl fun h=> .inr (zvz (by simp) h),h3⟩,h4,h5.cut⟩))
def zjt(q:Option (Eo×Ent)):List XV:=match q with
 |some x=>YX x
 |none=>[xs ⟨#[]⟩,xs ⟨#[]⟩,xi 0,xi 0,.v .nilp]
theorem zaX(q:Option (Eo×Ent)):(zjt q).length=5:=by cases q<;>rfl
theorem Yh(q:Option (Eo×Ent)):zbx q= .tup [.agg (zjt q),fb q.isSome]:=by cases q<;>rfl
def grS(o:Gi)(m:Gm):Nat→Prop:=fun x=>x∈o.ids++m.ids
structure GrpS(g:XH)(o:Gi)(m:Gm)(g':XH)(m':Gm):Prop where
 p:GrpP g' o m'
 u:Upg (grS o m) g g'
 n:∀j∈m'.ids,j∈m.ids∨g.length≤j
theorem GrpS.here{g J:XH}{o:Gi}{m:Gm}(h:GrpP g o m):GrpS g o m (g++J) m:=⟨h.app,Upg.junk,fun j hj=> .inl hj⟩
def ZN(m:Gm)(c:Cmd):Int×Option Ent:=
 if(yn m c.id).isSome then(4,none)
 else if 4≤m.ms.length then(5,none)
 else if c.x<1∨10000000<c.x then(1,none)
 else if Jq c.id c.j c.r c.y c.p then(0,some (qo c.id c.j c.x c.r c.y c.p)) else(1,none)
theorem GrpP.more{g:XH}{o:Gi}{m:Gm}(h:GrpP g o m){H:XH}{w:Nat}{o':Eo}{e':Ent}(hn:∀j∈o'.ids,g.length≤j)(hE:EntP H o' e')(h1:H[o.i]? =some (.own 0 66 4 [.sl o.l w 0 (m.ms.length+1),.ptr o.t 0 0,.ptr o.s 0 0,.ptr o.c 0 0]))(h2:H[o.l]? =some (.own w 69 5 (m.ms.flatMap YX++YX (o',e'))))(h3:∀j,j<g.length→j≠o.i→j≠o.l→H[j]? =g[j]?):GrpP H o {m with ms:=m.ms++[(o',e')]}:=by
 have hlt:=h.lt;obtain⟨nd,_,⟨w1,k3,k4⟩,⟨w2,k5,k6⟩,k7,k8⟩:=h;have k7:g[o.c]? =_:=k7;have hnd:=nd;rw[zvW] at hnd;obtain⟨n1,n2,n3⟩:=hnd;have n1':=n1;simp[Gi.ids] at n1';obtain⟨⟨a1,a2,a3,a4,a5,a6⟩,⟨b2,b3,b4,b5,b6⟩,_⟩:=n1';have q:∀i∈o.ids,i≠o.i→i≠o.l→H[i]? =g[i]? :=fun i hi a b=>h3 i (hlt i (zvX _ hi)) a b;refine⟨?_,⟨w,by simpa using h1,by simpa using h2⟩,⟨w1,?_,?_⟩,⟨w2,?_,?_⟩,?_,?_⟩
 ·simp only[Gm.ids,zvw,zvN,zxW,zvl];rw[←zvc,zvW];exact⟨nd,hE.nd,fun a ha b hb e=>by have:=hlt a ha;have:=hn b hb;omega⟩
 ·rw[q o.t (by simp[Gi.ids]) (fun e=>a2 e.symm) (fun e=>b2 e.symm)];exact k3
 ·rw[q o.tk (by simp[Gi.ids]) (fun e=>a3 e.symm) (fun e=>b3 e.symm)];exact k4
 ·rw[q o.s (by simp[Gi.ids]) (fun e=>a4 e.symm) (fun e=>b4 e.symm)];exact k5
 ·rw[q o.sk (by simp[Gi.ids]) (fun e=>a5 e.symm) (fun e=>b5 e.symm)];exact k6
 ·unfold zar;rw[q o.c (by simp[Gi.ids]) (fun e=>a6 e.symm) (fun e=>b6 e.symm)];exact k7
 ·intro x hx;rw[zuY,zvm] at hx;rcases hx with hx|rfl
  ·refine(k8 x hx).same fun j hj=>h3 j ((k8 x hx).lt j hj) ?_ ?_
   ·exact fun e=>n3 o.i (by simp[Gi.ids]) j (zvR.2 ⟨x,hx,hj⟩) e.symm
   ·exact fun e=>n3 o.l (by simp[Gi.ids]) j (zvR.2 ⟨x,hx,hj⟩) e.symm
  ·exact hE
theorem zqx{g:XH}{o:Gi}{m:Gm}(h:GrpP g o m)(hL:GrpL m)(c:Cmd):Cl C (grS o m) 26 [.s (.ptr o.i 0 0),.agg (jM c)] g fun u g'=>u=fi (ZN m c).1∧∃m',GrpS g o m g' m'∧match(ZN m c).2 with
 |some e=>∃o',m'={m with ms:=m.ms++[(o',e)]}
 |none=>m'=m:=by
 have hP:=h;have hlt:=h.lt;have hn:=hL.n;obtain⟨nd,⟨w,hi,hl⟩,_,_,_,_⟩:=h;have li:=zf hi;have ll:=zf hl;have hne:¬o.i=o.l:=by rw[zvW] at nd;have:=nd.1;simp[Gi.ids] at this;exact this.1.1
 have hne':¬o.l=o.i:=fun e=>hne e.symm;refine Cl.ip rfl (zuF rfl) fun Ψ hΨ=> ?_;have bad:∀(J:XH) (e:Int),ZN m c=(e,none)→Gh (grS o m) g Ψ (fi e) (g++J):=fun J e h=>Gh.here (hΨ _ _ (by rw[h];exact⟨rfl,m,GrpS.here hP,rfl⟩));simp;refine zb.go0 (zaS hP.app hL c.id) ?_;rw[Yh];have hml:=zaX (yn m c.id);generalize zjt (yn m c.id)=F at *;simp[hml];refine zc (fun c1=> ?_) (fun c1=> ?_)
 ·simp;exact bad _ 4 (by simp[ZN,c1])
 simp[hi,li];refine zc (fun c2=> ?_) (fun c2=> ?_)
 ·simp at c2;simp;exact bad _ 5 (by simp[ZN,c1,show 4≤m.ms.length by omega])
 simp at c2;have e1:ZN m c=if c.x<1∨10000000<c.x then(1,none) else if Jq c.id c.j c.r c.y c.p then(0,some (qo c.id c.j c.x c.r c.y c.p)) else(1,none):=by unfold ZN;rw[zuQ (by simp[c1]),zuQ (by omega)]
 simp;refine zc (fun c3=> ?_) (fun c3=> ?_)
 ·simp at c3;simp;exact bad _ 1 (by rw[e1,zuO (.inl c3)])
 simp at c3;simp;refine zc (fun c4=> ?_) (fun c4=> ?_)
 ·simp at c4;simp;exact bad _ 1 (by rw[e1,zuO (.inr c4)])
 simp at c4;rw[zuQ (by omega)] at e1;simp;refine zb.go (zs4 _ c.id c.j c.x c.r c.y c.p) (fun _ _ h=>h.elim) ?_;intro u g' hN;by_cases hk:Jq c.id c.j c.r c.y c.p
 ·rw[zuO hk] at hN e1;obtain⟨o',J',k1,rfl,rfl,k2⟩:=hN;have hfl:(m.ms.flatMap YX).length=m.ms.length*5:=zg qD m.ms;simp[hi,li,hl,ll,hne,hne',hfl,show(m.ms.length+1)*56≤140737488355328 by omega];refine⟨.inr (by simp[grS,Gi.ids]),.inr (by simp[grS,Gi.ids]),?_⟩;have hX:∀(A B:XO) (J0 J' K:XH) (j:Nat),g.length≤j→j<(g++J0++J').length→((g.set o.l A).set o.i B++(J0++(J'++K)))[j]? =(g++J0++J')[j]? :=by
   intro A B J0 J' K j h1 h2;rw[zvc] at h2⊢;rw[zuN (by simp;exact h1),zuN h1,←zvc,zuK (by simp at h2⊢;omega)];simp
  have hO:∀(A B:XO) (K:XH) (j:Nat),j<g.length→j≠o.i→j≠o.l→((g.set o.l A).set o.i B++K)[j]? =g[j]? :=by intro A B K j h1 h2 h3;rw[zuK (by simp;exact h1),zuR (fun e=>h2 e.symm),zuR (fun e=>h3 e.symm)]
  have hI:∀(A B:XO) (K:XH),((g.set o.l A).set o.i B++K)[o.i]? =some B∧((g.set o.l A).set o.i B++K)[o.l]? =some A:=by
   intro A B K;constructor
   ·rw[zuK (by simp;exact li),zu1 (by simp;exact li)]
   ·rw[zuK (by simp;exact ll),zuR hne,zu1 ll]
  have k1':∀j∈o'.ids,g.length≤j:=fun j hj=>zvz (by simp) (k1 j hj);have hE2:=fun A B K=>k2.same (G:=(g.set o.l A).set o.i B++([.own 0 28 12 (jM c),.own 0 69 5 (setX [.v (.str ⟨#[]⟩),.v (.str ⟨#[]⟩),.v (.int .i64 0),.v (.int .i64 0),.v .nilp] 0 F)]++(J'++K))) (fun j hj=>hX A B _ J' K j (k1' j hj) (k2.lt j hj));have hG:=fun w' K=>hP.more (w:=w') k1' (hE2 _ _ K) (hI _ _ _).1 (hI _ _ _).2 (fun j h1 h2 h3=>hO _ _ _ j h1 h2 h3);refine Gh.here (hΨ _ _ (by
   rw[e1];refine⟨rfl,_,⟨hG (w+1) [_],⟨by simp,fun j h1 h2=>hO _ _ _ j h1 (fun e=>h2 (by rw[e];simp[grS,Gi.ids])) (fun e=>h2 (by rw[e];simp[grS,Gi.ids]))⟩,fun j hj=> ?_⟩,o',rfl⟩;simp only[Gm.ids,zvw,zvN,zxW,zvl,zuY] at hj;exact hj.imp id (k1' j)))
 ·rw[zuQ hk] at hN e1;obtain⟨rfl,rfl⟩:=hN;simp;exact bad _ 1 e1
theorem GrpP.ne{g:XH}{o:Gi}{m:Gm}(h:GrpP g o m){i j:Nat}(hi:i∈o.ids)(hj:j∈m.ids):i≠j:=(zvW.1 h.nd).2.2 i hi j hj
theorem GrpP.setC{g H:XH}{o:Gi}{m:Gm}(h:GrpP g o m){c':List Pa}(hs:∀j∈o.ids++m.ids,j≠o.c→H[j]? =g[j]?)(hc:zar H o.c c'):GrpP H o {m with c:=c'}:=by
 have hP:=h;obtain⟨nd,⟨w,h1,h2⟩,⟨w1,h3,h4⟩,⟨w2,h5,h6⟩,h7,h8⟩:=h;have n1:=(zvW.1 nd).1;simp[Gi.ids] at n1;obtain⟨⟨a1,a2,a3,a4,a5,a6⟩,⟨b2,b3,b4,b5,b6⟩,⟨c3,c4,c5,c6⟩,⟨d4,d5,d6⟩,⟨e5,e6⟩,f6⟩:=n1;have q:∀i∈o.ids,i≠o.c→H[i]? =g[i]? :=fun i hi=>hs i (zvX _ hi);refine⟨nd,⟨w,?_,?_⟩,⟨w1,?_,?_⟩,⟨w2,?_,?_⟩,hc,fun x hx=>(h8 x hx).same fun i hi=>hs i (zwt _ (zvR.2 ⟨x,hx,hi⟩)) fun e=>hP.ne (i:=o.c) (by simp[Gi.ids]) (zvR.2 ⟨x,hx,hi⟩) e.symm⟩
 ·rw[q o.i (by simp[Gi.ids]) a6];exact h1
 ·rw[q o.l (by simp[Gi.ids]) b6];exact h2
 ·rw[q o.t (by simp[Gi.ids]) c6];exact h3
 ·rw[q o.tk (by simp[Gi.ids]) d6];exact h4
 ·rw[q o.s (by simp[Gi.ids]) e6];exact h5
 ·rw[q o.sk (by simp[Gi.ids]) f6];exact h6
theorem GrpP.setT{g H:XH}{o:Gi}{m:Gm}(h:GrpP g o m){t':List Rw}(hs:∀j∈o.ids++m.ids,j≠o.t→j≠o.tk→H[j]? =g[j]?)(ht:Yc 145 140 H o.t o.tk t'):GrpP H o {m with t:=t'}:=by
 have hP:=h;obtain⟨nd,⟨w,h1,h2⟩,_,⟨w2,h5,h6⟩,h7,h8⟩:=h;have h7:g[o.c]? =_:=h7;have n1:=(zvW.1 nd).1;simp[Gi.ids] at n1;obtain⟨⟨a1,a2,a3,a4,a5,a6⟩,⟨b2,b3,b4,b5,b6⟩,⟨c3,c4,c5,c6⟩,⟨d4,d5,d6⟩,⟨e5,e6⟩,f6⟩:=n1;have q:∀i∈o.ids,i≠o.t→i≠o.tk→H[i]? =g[i]? :=fun i hi=>hs i (zvX _ hi);refine⟨nd,⟨w,?_,?_⟩,ht,⟨w2,?_,?_⟩,?_,fun x hx=>(h8 x hx).same fun i hi=>hs i (zwt _ (zvR.2 ⟨x,hx,hi⟩)) (fun e=>hP.ne (i:=o.t) (by simp[Gi.ids]) (zvR.2 ⟨x,hx,hi⟩) e.symm) fun e=>hP.ne (i:=o.tk) (by simp[Gi.ids]) (zvR.2 ⟨x,hx,hi⟩) e.symm⟩
 ·rw[q o.i (by simp[Gi.ids]) a2 a3];exact h1
 ·rw[q o.l (by simp[Gi.ids]) b2 b3];exact h2
 ·rw[q o.s (by simp[Gi.ids]) (fun e=>c4 e.symm) (fun e=>d4 e.symm)];exact h5
 ·rw[q o.sk (by simp[Gi.ids]) (fun e=>c5 e.symm) (fun e=>d5 e.symm)];exact h6
 ·unfold zar;rw[q o.c (by simp[Gi.ids]) (fun e=>c6 e.symm) (fun e=>d6 e.symm)];exact h7
theorem GrpP.setE{g H:XH}{o:Gi}{m:Gm}(h:GrpP g o m){a b:List (Eo×Ent)}{x:Eo×Ent}(hm:m.ms=a++x::b){o':Eo}{e':Ent}{js':List Jo}(ho:o'.i=x.1.i)(hids:∀j∈o'.ids,j∈x.1.ids∨g.length≤j)(hE:EntP H o' e')(hk:e'.id=x.2.id∧e'.j=x.2.j∧e'.fx=x.2.fx∧e'.first=x.2.first)(hs:∀j,j<g.length→¬esS x.1 o.s o.sk j→H[j]? =g[j]?)(hst:qw H o.s o.sk js'):GrpP H o {m with js:=js',ms:=a++(o',e')::b}:=by
 have hP:=h;have hlt:=h.lt;obtain⟨nd,⟨w,h1,h2⟩,⟨w1,h3,h4⟩,_,h7,h8⟩:=h;have h7:g[o.c]? =_:=h7;have n1:=(zvW.1 nd).1;simp[Gi.ids] at n1;obtain⟨⟨a1,a2,a3,a4,a5,a6⟩,⟨b2,b3,b4,b5,b6⟩,⟨c3,c4,c5,c6⟩,⟨d4,d5,d6⟩,⟨e5,e6⟩,f6⟩:=n1;have hx:x∈m.ms:=by rw[hm];simp
 have hxm:∀j∈x.1.ids,j∈m.ids:=fun j hj=>zvR.2 ⟨x,hx,hj⟩;have q:∀i∈o.ids,i≠o.s→i≠o.sk→H[i]? =g[i]? :=fun i hi k1 k2=>hs i (hlt i (zvX _ hi)) fun e=>by
  rcases e with e|e|e
  ·exact hP.ne hi (hxm i e) rfl
  ·exact k1 e
  ·exact k2 e
 have hmi:m.ids=a.flatMap (fun x=>x.1.ids)++(x.1.ids++b.flatMap (fun x=>x.1.ids)):=by unfold Gm.ids;rw[hm];simp
 rw[hmi] at nd hlt hxm;have hP2:=hP;have sub:∀y∈a++b,y∈m.ms:=fun y hy=>by rw[hm];rw[zuY] at hy⊢;exact hy.imp id (zvD _)
 have enc:YX (o',e')=YX x:=by simp[YX,hk.1,hk.2.1,hk.2.2.1,hk.2.2.2,ho]
 generalize hA:a.flatMap (fun x:Eo×Ent=>x.1.ids)=A at *;generalize hB:b.flatMap (fun x:Eo×Ent=>x.1.ids)=B at *;have hAx:∀y∈a++b,∀j∈y.1.ids,j∈A++B:=fun y hy j hj=>by
  rw[zuY] at hy⊢;rcases hy with hy|hy
  ·exact .inl (hA▸zvR.2 ⟨y,hy,hj⟩)
  ·exact .inr (hB▸zvR.2 ⟨y,hy,hj⟩)
 simp only[zvW,zuY] at nd;obtain⟨nO,⟨nA,⟨nX,nB,nXB⟩,nAXB⟩,nOm⟩:=nd;have dis:∀y∈a++b,∀j∈y.1.ids,j∉x.1.ids:=fun y hy j hj hjx=>by
  have:=hAx y hy j hj;rw[zuY] at this;rcases this with h|h
  ·exact nAXB j h j (.inl hjx) rfl
  ·exact nXB j hjx j h rfl
 have ltA:∀j,j∈A∨j∈B→j<g.length:=fun j hj=>hlt j (by simp only[zuY];rcases hj with h|h<;>simp[h]);have ltO:∀j∈o.ids,j<g.length:=fun j hj=>hlt j (by simp only[zuY];exact .inl hj);refine⟨?_,⟨w,?_,?_⟩,⟨w1,?_,?_⟩,hst,?_,?_⟩
 ·simp only[Gm.ids,zvw,zvN,hA,hB,zvW,zuY];refine⟨nO,⟨nA,⟨hE.nd,nB,fun j hj k hk e=> ?_⟩,fun j hj k hk e=> ?_⟩,fun j hj k hk e=> ?_⟩
  ·subst e;rcases hids j hj with h|h
   ·exact nXB j h j hk rfl
   ·have:=ltA j (.inr hk);omega
  ·subst e;rcases hk with hk|hk
   ·rcases hids j hk with h|h
    ·exact nAXB j hj j (.inl h) rfl
    ·have:=ltA j (.inl hj);omega
   ·exact nAXB j hj j (.inr hk) rfl
  ·subst e;rcases hk with hk|hk|hk
   ·exact nOm j hj j (.inl hk) rfl
   ·rcases hids j hk with h|h
    ·exact nOm j hj j (.inr (.inl h)) rfl
    ·have:=ltO j hj;omega
   ·exact nOm j hj j (.inr (.inr hk)) rfl
 ·rw[q o.i (by simp[Gi.ids]) a4 a5,h1,hm];simp
 ·rw[q o.l (by simp[Gi.ids]) b4 b5,h2,hm];simp only[zvw,zvN,enc]
 ·rw[q o.t (by simp[Gi.ids]) c4 c5];exact h3
 ·rw[q o.tk (by simp[Gi.ids]) d4 d5];exact h4
 ·unfold zar;rw[q o.c (by simp[Gi.ids]) (fun e=>e6 e.symm) (fun e=>f6 e.symm)];exact h7
 ·intro y hy;simp only[zuY,zuX] at hy;by_cases hyx:y=(o',e')
  ·subst hyx;exact hE
  ·have hy':y∈a++b:=by
    rw[zuY];rcases hy with h|h|h
    ·exact .inl h
    ·exact absurd h hyx
    ·exact .inr h
   refine(h8 y (sub y hy')).same fun j hj=>hs j ((h8 y (sub y hy')).lt j hj) fun e=> ?_;rcases e with e|e|e
   ·exact dis y hy' j hj e
   ·exact hP2.ne (i:=o.s) (by simp[Gi.ids]) (zvR.2 ⟨y,sub y hy',hj⟩) e.symm
   ·exact hP2.ne (i:=o.sk) (by simp[Gi.ids]) (zvR.2 ⟨y,sub y hy',hj⟩) e.symm
theorem zf1(e:Ent)(d:Int×Sta):(zA e d).2.id=e.id∧(zA e d).2.j=e.j∧(zA e d).2.fx=e.fx∧(zA e d).2.first=e.first:=by
 unfold zA;split
 ·exact⟨rfl,rfl,rfl,rfl⟩
 ·split<;>exact⟨rfl,rfl,rfl,rfl⟩
theorem zer(t:List Rw)(js:List Jo)(e:Ent):(yv t js e).2.1.id=e.id∧(yv t js e).2.1.j=e.j∧(yv t js e).2.1.fx=e.fx∧(yv t js e).2.1.first=e.first:=by
 unfold yv;split
 ·exact⟨rfl,rfl,rfl,rfl⟩
 ·simp only;split
  ·exact⟨rfl,rfl,rfl,rfl⟩
  ·split<;>exact⟨rfl,rfl,rfl,rfl⟩
theorem zfW(js:List Jo)(e:Ent):(yW js e).2.1.id=e.id∧(yW js e).2.1.j=e.j∧(yW js e).2.1.fx=e.fx∧(yW js e).2.1.first=e.first:=by
 unfold yW;split
 ·exact⟨rfl,rfl,rfl,rfl⟩
 ·split
  ·exact⟨rfl,rfl,rfl,rfl⟩
  ·simp only;split<;>exact⟨rfl,rfl,rfl,rfl⟩
theorem zcn(t:List Rw)(js:List Jo)(e:Ent)(c:Cmd):(yi t js e c).2.1.id=e.id∧(yi t js e c).2.1.j=e.j∧(yi t js e c).2.1.fx=e.fx∧(yi t js e c).2.1.first=e.first:=by
 unfold yi
 repeat' split
 all_goals first|exact zf1 _ _|exact zer _ _ _|exact zfW _ _
def Yf(m:Gm)(c:Cmd):Int×List Pa:=if(yn m c.id).isNone∨(yn m c.id2).isNone then(3,m.c) else j9 m.c c.id c.id2 c.n
theorem zqw{g:XH}{o:Gi}{m:Gm}(h:GrpP g o m)(hL:GrpL m)(c:Cmd):Cl C (grS o m) 27 [.s (.ptr o.i 0 0),.agg (jM c)] g fun u g'=>u=fi (Yf m c).1∧GrpS g o m g' {m with c:=(Yf m c).2}:=by
 have hP:=h;obtain⟨nd,⟨w,hi,hl⟩,_,_,hc,_⟩:=h;have li:=zf hi;have hci:g[o.c]? =_:=hc;have lc:=zf hci;refine Cl.ip rfl (zuF rfl) fun Ψ hΨ=> ?_;simp;refine zb.go0 (zaS hP.app hL c.id) ?_;rw[Yh];have hml:=zaX (yn m c.id);generalize zjt (yn m c.id)=F at *;simp[hml];refine zb.go0 (zaS hP.app hL c.id2) ?_;rw[Yh];have hml2:=zaX (yn m c.id2);generalize zjt (yn m c.id2)=F2 at *;simp[hml2];have bad:∀J,((yn m c.id).isNone∨(yn m c.id2).isNone)→Gh (grS o m) g Ψ (fi 3) (g++J):=fun J h=>Gh.here (hΨ _ _ (by unfold Yf;rw[zuO h];exact⟨rfl,GrpS.here hP⟩));cases h1:yn m c.id with
 |none=>
  simp;exact bad _ (.inl (by rw[h1];rfl))
 |some x=>
  cases h2:yn m c.id2 with
  |none=>
   simp;exact bad _ (.inr (by rw[h2];rfl))
  |some y=>
   have e1:Yf m c=j9 m.c c.id c.id2 c.n:=by unfold Yf;rw[zuQ (by rw[h1,h2];simp)]
   simp[hi,li];refine zb.go (zsS hc.app hL.c hL.cu c.id c.id2 c.n) (fun z hz e=> .inr (by rw[e];simp[grS,Gi.ids])) ?_;rintro u g' ⟨rfl,rfl⟩;simp[lc];refine Gh.here (hΨ _ _ ?_);rw[e1];have hs:∀(A:XO) (J:XH) (j:Nat),j<g.length→j≠o.c→(g.set o.c A++J)[j]? =g[j]? :=fun A J j h1 h2=>by rw[zuK (by simp;exact h1),zuR (fun e=>h2 e.symm)]
   refine⟨rfl,hP.setC (fun j hj hn=>hs _ _ j (hP.lt j hj) hn) ?_,⟨by simp,fun j h1 h2=>hs _ _ j h1 fun e=>h2 (by rw[e];simp[grS,Gi.ids])⟩,fun j hj=> .inl hj⟩;unfold zar;rw[zuK (by simp;exact lc),zu1 lc]
noncomputable def zaG(m:Gm)(k:Int)(c:Cmd)(r:Int)(m':Gm):Prop:=
 if k≠0 then r=k∧m'=m
 else if c.k=1 then r=(JJ m.t c.j c.y c.r c.p).1∧m'={m with t:=(JJ m.t c.j c.y c.r c.p).2}
 else if c.k=2 then r=(ZN m c).1∧match(ZN m c).2 with
  |some e=>∃o',m'={m with ms:=m.ms++[(o',e)]}
  |none=>m'=m
 else if c.k=10 then r=(Yf m c).1∧m'={m with c:=(Yf m c).2}
 else match yn m c.id with
  |none=>r=3∧m'=m
  |some x=>r=(yi m.t m.js x.2 c).1∧∃a b o',m.ms=a++x::b∧m'={m with js:=(yi m.t m.js x.2 c).2.2,ms:=a++(o',(yi m.t m.js x.2 c).2.1)::b}
theorem grpDo{g:XH}{o:Gi}{m:Gm}(h:GrpP g o m)(hL:GrpL m)(c:Cmd)(hp:c.p≤9223372036854775807){k:Int}(hk:∀g:XH,Cl C (fun _=>False) 24 [.agg (jM c)] g fun u g'=>u=fi k∧g'=g):Cl C (grS o m) 9 [.s (.ptr o.i 0 0),.agg (jM c)] g fun u g'=>∃r m',u=fi r∧GrpS g o m g' m'∧zaG m k c r m':=by
 have hP:=h;have hlt:=h.lt;obtain⟨nd,⟨w,hi,hl⟩,ht,_,_,_⟩:=h;have li:=zf hi;have n1:=(zvW.1 nd).1;simp[Gi.ids] at n1;obtain⟨⟨a1,a2,a3,a4,a5,a6⟩,⟨b2,b3,b4,b5,b6⟩,⟨c3,c4,c5,c6⟩,⟨d4,d5,d6⟩,⟨e5,e6⟩,f6⟩:=n1;refine Cl.ip rfl (zuF rfl) fun Ψ hΨ=> ?_;simp;refine zb.go0 (hk _) ?_;simp;refine zc (fun k0=> ?_) (fun k0=> ?_)
 ·simp at k0;simp;exact Gh.here (hΨ _ _ ⟨k,m,rfl,GrpS.here hP,by unfold zaG;rw[zuO k0];exact⟨rfl,rfl⟩⟩)
 simp at k0
 have e0:∀r m',zaG m k c r m'=(if c.k=1 then r=(JJ m.t c.j c.y c.r c.p).1∧m'={m with t:=(JJ m.t c.j c.y c.r c.p).2}
  else if c.k=2 then r=(ZN m c).1∧match(ZN m c).2 with
   |some e=>∃o',m'={m with ms:=m.ms++[(o',e)]}
   |none=>m'=m
  else if c.k=10 then r=(Yf m c).1∧m'={m with c:=(Yf m c).2}
  else match yn m c.id with
   |none=>r=3∧m'=m
   |some x=>r=(yi m.t m.js x.2 c).1∧∃a b o',m.ms=a++x::b∧m'={m with js:=(yi m.t m.js x.2 c).2.2,ms:=a++(o',(yi m.t m.js x.2 c).2.1)::b}):=fun r m'=>by
  unfold zaG;rw[zuQ (by simpa using k0)]
 simp;refine zc (fun q1=> ?_) (fun q1=> ?_)
 ·simp at q1;simp[hi,li];refine zb.go (zuc ht.app c3 hL.t c.j c.y c.r c.p) (fun z hz e=> .inr (by rcases e with rfl|rfl<;>simp[grS,Gi.ids])) ?_;rintro u g' ⟨rfl,w2,rfl⟩;simp;have hsame:∀(J:XH) (j:Nat),j≠o.t→j≠o.tk→(zey 145 140 (g++J) o.t o.tk w2 (JJ m.t c.j c.y c.r c.p).2)[j]? =(g++J)[j]? :=fun J j h1 h2=>by
   unfold zey;rw[zuR (fun e=>h1 e.symm),zuR (fun e=>h2 e.symm)]
  have lt1:o.t<g.length:=hlt o.t (by simp[Gi.ids]);have lt2:o.tk<g.length:=hlt o.tk (by simp[Gi.ids])
  have hT:∀J:XH,Yc 145 140 (zey 145 140 (g++J) o.t o.tk w2 (JJ m.t c.j c.y c.r c.p).2) o.t o.tk (JJ m.t c.j c.y c.r c.p).2:=fun J=>⟨w2,by
   unfold zey;rw[zu1 (by simp;omega)],by
   unfold zey;rw[zuR c3,zu1 (by simp;omega)]⟩
  refine Gh.here (hΨ _ _ ⟨_,_,rfl,⟨hP.setT (fun j hj h1 h2=>by rw[hsame _ j h1 h2,zq (hlt j hj)]) (hT _),⟨by simp[zey],fun j h1 h2=> ?_⟩,fun j hj=> .inl hj⟩,by rw[e0,zuO q1];exact⟨rfl,rfl⟩⟩);rw[hsame _ j (fun e=>h2 (by rw[e];simp[grS,Gi.ids])) (fun e=>h2 (by rw[e];simp[grS,Gi.ids])),zq h1]
 simp at q1;refine zc (fun q2=> ?_) (fun q2=> ?_)
 ·simp at q2;simp;refine zb.go (zqx hP.app hL c) (fun z hz e=> .inr e) ?_;rintro u g' ⟨rfl,m',hS,hm⟩;simp;exact Gh.here (hΨ _ _ ⟨_,m',rfl,⟨hS.p,hS.u.cut,fun j hj=>(hS.n j hj).imp id fun h=>zvz (by simp) h⟩,by rw[e0,zuQ q1,zuO q2];exact⟨rfl,hm⟩⟩)
 simp at q2;refine zc (fun q3=> ?_) (fun q3=> ?_)
 ·simp at q3;simp;refine zb.go (zqw hP.app hL c) (fun z hz e=> .inr e) ?_;rintro u g' ⟨rfl,hS⟩;simp;exact Gh.here (hΨ _ _ ⟨_,_,rfl,⟨hS.p,hS.u.cut,fun j hj=>(hS.n j hj).imp id fun h=>zvz (by simp) h⟩,by rw[e0,zuQ q1,zuQ q2,zuO q3];exact⟨rfl,rfl⟩⟩)
 simp at q3;simp;refine zb.go0 (zaS hP.app hL c.id) ?_;cases hf:yn m c.id with
 |none=>
  simp[zbx];exact Gh.here (hΨ _ _ ⟨3,m,rfl,GrpS.here hP,by rw[e0,zuQ q1,zuQ q2,zuQ q3,hf];exact⟨rfl,rfl⟩⟩)
 |some x=>
  have hx:x∈m.ms:=zv7 hf;simp[zbx,YX];have hsub:∀z,esS x.1 o.s o.sk z→grS o m z:=fun z e=>by
   unfold grS;rw[zuY];rcases e with e|e|e
   ·exact .inr (zvR.2 ⟨x,hx,e⟩)
   ·rw[e];exact .inl (by simp[Gi.ids])
   ·rw[e];exact .inl (by simp[Gi.ids])
  refine zb.go (zqy hP.app hL hx c hp) (fun z hz e=> .inr (hsub z e)) ?_;rintro u g' ⟨rfl,⟨o',t1,t2,t3⟩,t4,t5⟩;simp;obtain⟨a,b,hab⟩:=List.append_of_mem hx;have t6:=t5.cut;have t2':∀j∈o'.ids,j∈x.1.ids∨g.length≤j:=fun j hj=>(t2 j hj).imp id fun h=>zvz (by simp) h;refine Gh.here (hΨ _ _ ⟨_,_,rfl,⟨hP.setE hab t1 t2' t3 (zcn m.t m.js x.2 c) (fun j h1 h2=>t6.same j h1 h2) t4,t6.mono hsub,fun j hj=> ?_⟩,by rw[e0,zuQ q1,zuQ q2,zuQ q3,hf];exact⟨rfl,a,b,o',hab,rfl⟩⟩);simp only[Gm.ids,zvw,zvN,zuY] at hj⊢;rw[hab];simp only[zvw,zvN,zuY];rcases hj with h|h|h
  ·exact .inl (.inl h)
  ·exact(t2' j h).imp (fun h=> .inr (.inl h)) id
  ·exact .inl (.inr (.inr h))
def zdQ(p:Int)(x:Eo×Ent):Bool:=decide (x.2.first≤p)&& !(qS x.2 p).isSome
set_option maxRecDepth 8000 in
theorem ztA(x:Eo×Ent){p:Int}(hp:p≤9223372036854775807){g:XH}{a:Nat}(ha:g[a]? =some (.own 0 3 1 [xi p]))(hE:EntP g x.1 x.2)(hL:EntL x.2):Cl C (fun _=>False) 79 [.agg (YX x),.s (.ptr a 0 0)] g fun u g'=>u=fb (zdQ p x)∧g'=g:=by
 have la:=zf ha;refine Cl.ip rfl (zuF rfl) fun Ψ hΨ=> ?_;simp[YX,ha,la];refine zb.go0 (Y0 hE.app hL p hp) ?_;simp[zfd,zF,pC,zT,zj,zD,ha,la];refine zc (fun h1=> ?_) (fun h1=> ?_)
 ·simp at h1;simp;exact Gh.pure (.s (.lt (by simp))) (hΨ _ _ ⟨by simp[zdQ,h1],rfl⟩)
 ·simp at h1;simp;exact Gh.pure (.s (.lt (by simp))) (hΨ _ _ ⟨by simp[zdQ];omega,rfl⟩)
def zcx(m:Gm)(p:Int):Bool:= !m.ms.any (zdQ p)
theorem zlP{g:XH}{o:Gi}{m:Gm}(h:GrpP g o m)(hL:GrpL m){p:Int}(hp:p≤9223372036854775807):Cl C (fun _=>False) 31 [.s (.ptr o.i 0 0),fi p] g fun u g'=>u=fb (zcx m p)∧g'=g:=by obtain⟨nd,⟨w,hi,hl⟩,_,_,_,he⟩:=h;have li:=zf hi;have hn:=hL.n;refine Cl.ip rfl (zuF rfl) fun Ψ hΨ=> ?_;simp[hi,li];refine zb.go0 (Qx (q:=zdQ p) (f:=78) (fi':=68) rfl rfl qD (by decide) (RdX.sl qD hl).app (by omega) (.inr ⟨g.length+1,79,[],[.s (.ptr g.length 0 0)],rfl,by simp,fun x hx=>ztA x hp (by simp) (he x hx).app (hL.e x hx)⟩)) ?_;simp;exact Gh.pure (.s (.lt (by simp))) (hΨ _ _ ⟨rfl,rfl⟩)
def ziT(m:Gm)(b:ByteArray):ByteArray:=match yn m b with
 |some x=>x.2.j
 |none=>⟨#[]⟩
def qI(m:Gm)(p:Int)(x:Pa):Int×Int:=yZ m.t (ziT m x.b) p
def qV(m:Gm)(p:Int):Int×Int:=match m.c.find? fun x=> !((qI m p x).2==0) with
 |some x=>(0,(qI m p x).2)
 |none=>zg8 m.c (m.c.map fun x=>(qI m p x).1)
theorem len5{α:Type}{l:List α}(h:l.length=5):∃a b c d e,l=[a,b,c,d,e]:=by
 match l,h with
 |[a,b,c,d,e],_=>exact⟨_,_,_,_,_,rfl⟩
theorem zty(m:Gm)(b:ByteArray):(zjt (yn m b))[1]? =some (xs (ziT m b)):=by unfold ziT;cases yn m b<;>rfl
theorem znF{g:XH}{o:Gi}{m:Gm}(h:GrpP g o m)(hL:GrpL m)(p:Int):Cl C (fun _=>False) 36 [.s (.ptr o.i 0 0),fi p] g fun u g'=>u= .tup [fi (qV m p).1,fi (qV m p).2]∧g'=g:=by
 have hP:=h;obtain⟨nd,⟨w,hi,hl⟩,ht,_,hc,_⟩:=h;have li:=zf hi;have hcl:=hL.c;have htl:=hL.t;refine Cl.ip rfl (zuF rfl) fun Ψ hΨ=> ?_;simp[hi,li];refine zb.go0 (Fresh.frz (zfR hc (by omega)) (znr _ _) (by rw[zg yk])) ?_;simp;refine Lp.genG 3 1 (σ:=Nat) m.c.length (fun k w=>[(7,.s (.sl g.length w 0 k)),(21,fi k)]) (fun k w=>g++[.own w 3 1 (((m.c.take k).map fun x=>(qI m p x).1).flatMap zY)]) (fun k _=>∀x∈m.c.take k,(qI m p x).2=0) 0 (by decide) rfl (by simp[GhF]) (by simp) (fun x hx=>by simp at hx) ?_ ?_
 ·rintro q hq w2 hok hlt N hN;obtain⟨a1,a2,a3⟩:=atX yk hq;have e1:m.c.take (q+1)=m.c.take q++[m.c[q]]:=zu6 hq;have hfl:(((m.c.take q).map fun x=>(qI m p x).1).flatMap zY).length=q:=by rw[zg zG];simp;omega
  have hlF:∀k,zw k (((m.c.take q).map fun x=>(qI m p x).1).flatMap zY):=fun k=>znp k _;have hfind:m.c.find? (fun x=> !((qI m p x).2==0))=if(qI m p m.c[q]).2=0 then(m.c.drop (q+1)).find? (fun x=> !((qI m p x).2==0)) else some m.c[q]:=by
   conv=>lhs;rw[←zvj q m.c]
   rw[List.find?_append,zwC.2 (fun x hx=>by simp[hok x hx]),zvq hq,zxE];by_cases hz:(qI m p m.c[q]).2=0
   ·simp[hz]
   ·have hb:(!((qI m p m.c[q]).2==0))=true:=by simpa using hz
    rw[hb,zuQ hz];rfl
  rw[e1,zvp,zvw] at hN;simp only[zuY] at hN;generalize((m.c.take q).map fun x=>(qI m p x).1).flatMap zY=F at *;generalize m.c[q]=x at *;simp[l36_0,hq,a1,a2,qe];refine zb.go0 (zaS hP.app hL x.b) ?_;rw[Yh];have hml:=zaX (yn m x.b);have hj:=zty m x.b;generalize zjt (yn m x.b)=M at *;obtain⟨m0,m1,m2,m3,m4,rfl⟩:=len5 hml;simp at hj;subst hj;simp[hi,li];refine zb.go0 (zhU ht.app (by omega) (ziT m x.b) p) ?_;have hnx:yZ m.t (ziT m x.b) p=qI m p x:=rfl;rw[hnx];simp;refine zc (fun c1=> ?_) (fun c1=> ?_)
  ·simp at c1;simp;exact Gh.pure (.t2 .i .i) (hΨ _ _ ⟨by unfold qV;rw[hfind,zuQ c1],rfl⟩)
  simp at c1;simp[hfl,show(q+1)*8≤140737488355328 by omega,yN hq (by omega)];refine jo (fun fr g'=>hN (w2+1) fr g' ?_) (by simp) (by simp) (by simpa using hlt) (by simp[lvO,hlF]);rintro y (hy|hy)
  ·exact hok y hy
  ·rw[zvm] at hy;subst hy;exact c1
 ·rintro w2 hok;rw[zve] at hok⊢;simp[l36_0];have hfn:m.c.find? (fun x=> !((qI m p x).2==0))=none:=zwC.2 fun x hx=>by simp[hok x hx]
  have hml:(m.c.map fun x=>(qI m p x).1).length=m.c.length:=by simp
  have hA:=fun G (h:RdX G 3 1 zY (.sl g.length w2 0 m.c.length) (m.c.map fun x=>(qI m p x).1))=>zng (RdX.lst G m.c) h (by omega);refine zb.go0 (hA _ (by rw[←hml];exact RdX.sl zG (by simp))) ?_;simp;exact Gh.pure (.t2 .i .i) (hΨ _ _ ⟨by unfold qV;rw[hfn],rfl⟩)
theorem zmZ(a b:List It):(zcS a b).length≤a.length+b.length:=by have:=zat (a++b) [];simp only[zuM,zv1] at this;unfold zcS;rw[zJ];omega
theorem zlv(l:List It)(fx:Int):(jL l fx).2.1.length≤20:=by
 unfold jL;split
 ·simp
 ·split
  ·simp
  ·split
   ·simp
   ·rename_i h _ _;simp;omega
def QW(p:Int):List (Eo×Ent)→List It→Int→Int×List It×Int
 |[],it,d=>(0,it,d)
 |x::l,it,d=>match qS x.2 p with
  |none=>QW p l it d
  |some q=>if(jL (qm q) x.2.fx).1≠0 then((jL (qm q) x.2.fx).1,[],0) else QW p l (zcS it (jL (qm q) x.2.fx).2.1) (wr (d+(jL (qm q) x.2.fx).2.2))
structure Rep where
 items:List It
 diff:Int
 total:Int
 asset:Int
def YZ(r:Rep):List XV:=[QS r.items,xi r.diff,xi r.total,xi r.asset]
def Zx(m:Gm)(p:Int):Int×Rep:=
 if¬zm p=true then(1,⟨[],0,0,0⟩)
 else if¬zcx m p=true then(8,⟨[],0,0,0⟩)
 else
  let s:=QW p m.ms [] 0
  if s.1≠0 then(s.1,⟨[],0,0,0⟩)
  else if(qV m p).2≠0 then((qV m p).2,⟨[],0,0,0⟩)
  else(0,⟨s.2.1,s.2.2,wr (zex s.2.1+s.2.2),(qV m p).1⟩)
set_option maxRecDepth 8000 in
set_option maxHeartbeats 1000000 in
theorem zlQ{g:XH}{o:Gi}{m:Gm}(h:GrpP g o m)(hL:GrpL m)(p:Int):Cl C (fun _=>False) 10 [.s (.ptr o.i 0 0),fi p] g fun u g'=>u= .tup [.agg (YZ (Zx m p).2),fi (Zx m p).1]∧g'=g:=by
 have hP:=h;obtain⟨nd,⟨w,hi,hl⟩,_,_,_,he⟩:=h;have li:=zf hi;have ll:=zf hl;have hn:=hL.n;refine Cl.ip rfl (zuF rfl) fun Ψ hΨ=> ?_;have lx:∀n:Int,lvV g.length (xi n):=fun n=>by simp
 have bad:∀(J:XH) (e:Int),Zx m p=(e,⟨[],0,0,0⟩)→Gh (fun _=>False) g Ψ (.tup [.agg [.v .nils,xi 0,xi 0,xi 0],fi e]) (g++J):=fun J e h=>Gh.pure (.t2 (.agg (.cons (.nil (t:=43) (z:=2)) (.cons (.lt (lx _)) (.cons (.lt (lx _)) (.cons (.lt (lx _)) .nil))))) .i) (hΨ _ _ ⟨by rw[h];rfl,rfl⟩);simp;refine zb.pure (Zg ..) ?_;simp;refine zc (fun c1=> ?_) (fun c1=> ?_)
 rotate_left
 ·simp;exact bad _ 1 (by simp[Zx,c1])
 have hp:p≤9223372036854775807:=by simp[zm] at c1;omega
 simp;refine zb.go0 (zlP hP.app hL hp) ?_;simp;refine zc (fun c2=> ?_) (fun c2=> ?_)
 rotate_left
 ·simp;exact bad _ 8 (by simp[Zx,c1,c2])
 have e1:Zx m p=if(QW p m.ms [] 0).1≠0 then((QW p m.ms [] 0).1,⟨[],0,0,0⟩)
  else if(qV m p).2≠0 then((qV m p).2,⟨[],0,0,0⟩)
  else(0,⟨(QW p m.ms [] 0).2.1,(QW p m.ms [] 0).2.2,wr (zex (QW p m.ms [] 0).2.1+(QW p m.ms [] 0).2.2),(qV m p).1⟩):=by
  unfold Zx;rw[zuQ (by simp[c1]),zuQ (by simp[c2])]
 simp[hi,li];refine Lp.genU (σ:=XV×List It×Int) m.ms.length (fun k _=>[(33,fi k)]) (fun _ s=>g++[.own 0 34 4 [.v .nils,xi 0,xi 0,xi 0],.own 0 34 4 [s.1,xi s.2.2,xi 0,xi 0]]) (fun k s=>(s.2.1=[]∧s.1= .v .nils∨s.1=QS s.2.1)∧s.2.1.length≤20*k∧QW p m.ms [] 0=QW p (m.ms.drop k) s.2.1 s.2.2) (.v .nils,[],0) (by decide) rfl (by simp) (by simp) ⟨.inl ⟨rfl,rfl⟩,by simp,rfl⟩ ?_ ?_
 ·rintro q hq ⟨v,it,d⟩ ⟨hv,hil,hr⟩ hlt N hN;simp only at hv hil hr hN⊢;obtain⟨p1,cs1,o1,b1,b2,b3,b4,b5,_⟩:=(RdX.sl qD hl).atJ qD (by decide) hq;have hE:=he _ (zvk hq);have hEL:=hL.e _ (zvk hq);have hvl:∀n,lvV n v:=fun n=>by
   rcases hv with⟨_,h2⟩|h1
   ·rw[h2];simp
   ·rw[h1];simp
  rw[zvq hq,QW] at hr;generalize m.ms[q]=x at *;simp[l10_0,hq,b1,b2,b3,b4,b5,YX];refine zb.go0 (Y0 hE.app hEL p hp) ?_;rcases hpv:qS x.2 p with _|pr
  ·rw[hpv] at hr;simp[zfd,zF,pC,zT,zj,zD,yN hq (by omega)];exact zjC (fun fr g'=>hN (v,it,d) fr g' ⟨hv,by simp only;omega,hr⟩) rfl rfl (by simp) (by simpa using hlt) (by simp[lvO]) (by simp[lvO,hvl])
  ·rw[hpv] at hr;simp only at hr;obtain⟨cc,hcc,hcp⟩:=QJ hpv;have hpl:=(hEL.cs cc hcc).2.1;rw[hcp] at hpl;simp[zfd,zF,pC,zT,zj,zD];refine zz 4 [8] (fun _=>False) (by decide) (by decide) ?_;simp only[zu3,zvs,zvd,zu8];simp;refine zb.go0 (zjH hpl) ?_;simp;have hil2:(qm pr).length≤1000:=by simp[qm,Y5]
   refine zb.go0 (zlN (RdX.lst _ (qm pr)) hil2 x.2.fx) ?_;have hcl:=zlv (qm pr) x.2.fx;generalize jL (qm pr) x.2.fx=cv at *;obtain⟨er,its,df⟩:=cv;simp;refine zc (fun c3=> ?_) (fun c3=> ?_)
   ·simp at c3;simp;rw[zuO (by simpa using c3)] at hr;exact bad _ er (by rw[e1,hr,zuO (by simpa using c3)])
   simp at c3;rw[zuQ (by simpa using c3)] at hr;simp only at hr hcl;simp;refine zz 6 [6] (fun _=>False) (by decide) (by decide) ?_;simp only[zu3,zvs,zvd,zu8];simp;have hrd:∀G:XH,RdX G 43 2 yX v it:=fun G=>by
    rcases hv with⟨h1,h2⟩|h1
    ·exact .inl ⟨h1,.inl h2⟩
    ·rw[h1];exact RdX.lst G it
   refine zb.go0 (fxAdd (hrd _) (RdX.lst _ its) (by omega) (by omega)) ?_;simp[yN hq (by omega)];have hal:=zmZ it its;exact zjC (fun fr g'=>hN (QS (zcS it its),zcS it its,wr (d+df)) fr g' ⟨.inr rfl,by simp only;omega,hr⟩) rfl (by simp) (by simp) (by simpa using hlt) (by simp[lvO]) (by simp[lvO])
 ·rintro⟨v,it,d⟩ ⟨hv,hil,hr⟩;simp only at hv hil hr⊢;rw[List.drop_of_length_le (zuL _),QW] at hr;have hrd:∀G:XH,RdX G 43 2 yX v it:=fun G=>by
   rcases hv with⟨h1,h2⟩|h1
   ·exact .inl ⟨h1,.inl h2⟩
   ·rw[h1];exact RdX.lst G it
  rw[hr] at e1;simp only[ne_eq,not_true_eq_false,if_false] at e1;simp[l10_0];refine zb.go0 (znF hP.app hL p) ?_;generalize qV m p=as at *;obtain⟨an,ae⟩:=as;simp;refine zc (fun c3=> ?_) (fun c3=> ?_)
  ·simp at c3;simp;exact bad _ ae (by rw[e1,zuO (by simpa using c3)])
  simp at c3;rw[zuQ (by simpa using c3)] at e1;simp;refine zz 5 [6] (fun _=>False) (by decide) (by decide) ?_;simp only[zu3,zvs,zvd,zu8];simp;refine zb.go0 (zij (hrd _) (by omega)) ?_;simp;refine Gh.pure (.t2 (.agg (.cons ?_ (.cons (.lt (lx _)) (.cons (.lt (lx _)) (.cons (.lt (lx _)) .nil))))) .i) (hΨ _ _ ⟨by rw[e1];rfl,rfl⟩);rcases hv with⟨h1,h2⟩|h1
  ·rw[h1,h2];exact .nil
  ·rw[h1];exact .lt (by simp)
def unB(a b:Bu):Prop:=¬(a.c=b.c∧a.y=b.y)
theorem Qt:∀{l:List Bu},l.Pairwise unB→jH ltB l=true
 |[],_=>rfl
 |x::l,h=>by obtain⟨h1,h2⟩:=zu7.1 h;simp only[jH,zuP,zu4];refine⟨fun y hy=> ?_,Qt h2⟩;have:=h1 y hy;unfold unB at this;simp only[ltB,zvJ,zuP,zuW,zwf];omega
theorem Yo(b:Bu)(l:List Bu):yL (b::l)=b.n+yL l:=by simp[yL]
theorem yY{c y:Int}{b:Bu}:jm c y b=true↔b.c=c∧b.y=y:=by simp[jm]
theorem ji(b:Bu)(l:List Bu)(c y:Int):getD (b::l) c y=if jm c y b then b.n else getD l c y:=by unfold getD;rw[zxE];cases jm c y b<;>rfl
theorem zic(c y n:Int):∀(l:List Bu),yL (jZ c y n l)=yL l-getD l c y+n
 |[]=>by
  by_cases h:n=0<;>simp[jZ,yL,getD,h]
 |b::l=>by
  have ih:=zic c y n l;rw[jZ,ji];split
  ·simp only[Yo];omega
  ·simp only[Yo,ih];omega
theorem zd7(c y n:Int):∀(l:List Bu) (b:Bu),b∈jZ c y n l→b∈l∨b=⟨c,y,n⟩
 |[],b,h=>by simp[jZ] at h;exact .inr h.2
 |x::l,b,h=>by
  rw[jZ] at h;split at h
  ·rename_i hk;rw[zuX] at h;rcases h with h|h
   ·exact .inr (by rw[h];simp[jm] at hk;simp[hk])
   ·exact .inl (zvD _ h)
  ·rw[zuX] at h;rcases h with h|h
   ·exact .inl (h▸zvT)
   ·exact(zd7 c y n l b h).imp (zvD _) id
theorem zgE(c y n:Int):∀{l:List Bu},l.Pairwise unB→(jZ c y n l).Pairwise unB
 |[],_=>by by_cases h:n=0<;>simp[jZ,h]
 |x::l,h=>by
  obtain⟨h1,h2⟩:=zu7.1 h;rw[jZ];split
  ·exact zu7.2 ⟨fun b hb=>h1 b hb,h2⟩
  ·rename_i hk;refine zu7.2 ⟨fun b hb=> ?_,zgE c y n h2⟩;rcases zd7 c y n l b hb with hb|rfl
   ·exact h1 b hb
   ·rintro⟨e1,e2⟩;exact hk (yY.2 ⟨e1,e2⟩)
theorem zdn:∀(l:List Bu),yL (l.filter fun b=> !(b.n==0))=yL l
 |[]=>rfl
 |b::l=>by
  rw[zwq];split
  ·simp only[Yo,zdn l]
  ·rename_i h;simp at h;simp only[Yo,zdn l,h];omega
theorem zef(l:List Bu)(c y n:Int):yL (jF l c y n)=yL l-getD l c y+n:=by unfold jF;rw[zdn,zic]
theorem zee{l:List Bu}{c y n:Int}{b:Bu}(h:b∈jF l c y n):b∈l∨b=⟨c,y,n⟩:=zd7 c y n l b (zvx.1 h).1
theorem zbd{l:List Bu}(h:l.Pairwise unB)(c y n:Int):(jF l c y n).Pairwise unB:=(zgE c y n h).sublist zwi
theorem zcb{c y c2 y2 n:Int}(hne:¬(c=c2∧y=y2)):∀(l:List Bu),getD (jZ c y n l) c2 y2=getD l c2 y2
 |[]=>by
  rw[jZ];split
  ·rw[ji,zuQ];rw[yY];exact hne
  ·rfl
 |b::l=>by
  rw[jZ];split
  ·rename_i hk;have hk:=yY.1 hk;rw[ji,ji,zuQ,zuQ]
   ·rw[yY];omega
   ·rw[yY];simp only;omega
  ·rw[ji,ji,zcb hne l]
theorem zbz(c y:Int):∀{l:List Bu},l.Pairwise unB→getD (l.filter fun b=> !(b.n==0)) c y=getD l c y
 |[],_=>rfl
 |b::l,h=>by
  obtain⟨h1,h2⟩:=zu7.1 h;rw[zwq];split
  ·rw[ji,ji,zbz c y h2]
  ·rename_i hb;simp at hb;rw[ji,zbz c y h2];split
   ·rename_i hk;have hk:=yY.1 hk;rw[hb];unfold getD;rw[zwC.2];intro x hx;have:=h1 x hx;rw[yY];rintro⟨e1,e2⟩;exact this ⟨by omega,by omega⟩
   ·rfl
theorem Zj{c y c2 y2 n:Int}{l:List Bu}(h:l.Pairwise unB)(hne:¬(c=c2∧y=y2)):getD (jF l c y n) c2 y2=getD l c2 y2:=by unfold jF;rw[zbz c2 y2 (zgE c y n h),zcb hne]
def zcP(l:List Bu):Prop:=Q8 l∧l.Pairwise unB
theorem zcP.move{l:List Bu}(h:zcP l)(c y n:Int):zcP (jx l c y n).2:=by
 obtain⟨⟨h1,h2,h3⟩,h4⟩:=h;unfold jx;split
 ·exact⟨⟨h1,h2,h3⟩,h4⟩
 split
 ·exact⟨⟨h1,h2,h3⟩,h4⟩
 rename_i k2;split
 ·exact⟨⟨h1,h2,h3⟩,h4⟩
 rename_i k3;simp only[not_or,zxU,ne_eq,Decidable.not_not,Bool.not_eq_false] at k2;refine⟨⟨by simp only;omega,fun b hb=> ?_,?_⟩,zbd h4 _ _ _⟩
 ·rcases zee hb with hb|rfl
  ·exact h2 b hb
  ·exact k2.1
 ·show za (yL (jF l c y (getD l c y+n)))=true;rw[zef,show yL l-getD l c y+(getD l c y+n)=yL l+n by omega];exact k2.2
theorem zcP.reclass{l:List Bu}(h:zcP l)(c y c2 y2 n:Int):zcP (ya l c y c2 y2 n).2:=by
 obtain⟨⟨h1,h2,h3⟩,h4⟩:=h;unfold ya;split
 ·exact⟨⟨h1,h2,h3⟩,h4⟩
 rename_i k1;split
 ·exact⟨⟨h1,h2,h3⟩,h4⟩
 rename_i k2;split
 ·exact⟨⟨h1,h2,h3⟩,h4⟩
 rename_i k3;simp only[not_or,zxU,ne_eq,Decidable.not_not,Bool.not_eq_false] at k1 k2;have hne:¬(c=c2∧y=y2):=k1.2.2.2;refine⟨⟨by simp only;omega,fun b hb=> ?_,?_⟩,zbd (zbd h4 _ _ _) _ _ _⟩
 ·rcases zee hb with hb|rfl
  ·rcases zee hb with hb|rfl
   ·exact h2 b hb
   ·exact k2.1
  ·exact k2.2
 ·show za (yL (jF (jF l c y (getD l c y-n)) c2 y2 (getD l c2 y2+n)))=true;rw[zef,zef,Zj h4 hne,show yL l-getD l c y+(getD l c y-n)-getD l c2 y2+(getD l c2 y2+n)=yL l by omega];exact h3
def zf3(l:List Int)(f:Int)(n:Nat):Prop:=l.Nodup∧∀p∈l,f≤p∧p<f+(n:Int)
theorem zdk(f:Int):∀(n:Nat) {l:List Int},zf3 l f n→l.length≤n
 |0,[],_=>zuL _
 |0,x::l,h=>by have:=h.2 x (by simp);omega
 |n+1,l,h=>by
  have h2:zf3 (l.erase (f+(n:Int))) f n:=by refine⟨h.1.erase _,fun p hp=> ?_⟩;have hm:=(h.1.mem_erase_iff).1 hp;have:=h.2 p hm.2;have:=hm.1;omega
  have h3:=zdk f n h2;by_cases hm:f+(n:Int)∈l
  ·rw[List.length_erase_of_mem hm] at h3;omega
  ·rw[List.erase_of_not_mem hm] at h3;omega
theorem zf3.mono{l:List Int}{f:Int}{n k:Nat}(h:zf3 l f n)(hk:n≤k):zf3 l f k:=⟨h.1,fun p hp=>by have:=h.2 p hp;omega⟩
structure EntV(e:Ent):Prop where
 p:zm e.first=true
 hi:e.touched.length≤401
 lo:LosI e.s.l
 reg:zcP e.s.reg
 fl:zf3 e.s.filed e.first e.cs.length
 cl:e.cs.length+1=e.touched.length
 cs:∀c∈e.cs,ProC c.p∧ProL c.p∧LosI c.was.l∧za c.p.cur.tax=true
 cf:∀(k:Nat) (h:k<e.cs.length),zf3 e.cs[k].was.filed e.first k
theorem EntV.l{e:Ent}(h:EntV e):EntL e:=by have hh:=h.hi;have hc:=h.cl;have hf:=zdk _ _ h.fl;have hr:=h.reg.1.1;refine⟨⟨h.p,by omega,by omega⟩,h.lo,h.reg.1,by omega,Qt h.reg.2,by omega,h.cl,fun c hm=> ?_⟩;obtain⟨k,hk,rfl⟩:=zwU hm;obtain⟨a1,a2,a3,a4⟩:=h.cs _ hm;have:=zdk _ _ (h.cf k hk);exact⟨a1,a2,a3,by omega,a4⟩
theorem zoe{id j:ByteArray}{fx most life first:Int}(h:zm first=true):EntV (qo id j fx most life first):=by refine⟨h,by simp[qo],⟨by simp[qo],fun v hv=>by simp[qo] at hv,by simp[qo,zx,za],rfl⟩,⟨⟨by simp[qo],fun b hb=>by simp[qo] at hb,by simp[qo,yL,za]⟩,.nil⟩,⟨.nil,fun p hp=>by simp[qo] at hp⟩,rfl,fun c hc=>by simp[qo] at hc,fun k hk=>by simp[qo] at hk⟩
theorem EntV.enter{e:Ent}(h:EntV e){d:Int×Sta}(h1:LosI d.2.l)(h2:zcP d.2.reg)(h3:zf3 d.2.filed e.first e.cs.length):EntV (zA e d).2:=by
 unfold zA;split
 ·exact h
 split
 ·exact⟨h.p,by simpa using h.hi,h1,h2,h3,by simpa using h.cl,h.cs,h.cf⟩
 ·exact⟨h.p,h.hi,h1,h2,h3,h.cl,h.cs,h.cf⟩
theorem EntV.file{e:Ent}(h:EntV e)(p n:Int):EntV (zA e (jD e p n)).2:=by
 have key:LosI (jD e p n).2.l∧zcP (jD e p n).2.reg∧zf3 (jD e p n).2.filed e.first e.cs.length:=by
  unfold jD;split
  ·exact⟨h.lo,h.reg,h.fl⟩
  ·rename_i q hq;split
   ·exact⟨h.lo,h.reg,h.fl⟩
   rename_i hc;split
   ·exact⟨h.lo,h.reg,h.fl⟩
   split
   ·exact⟨h.lo,h.reg,h.fl⟩
   refine⟨h.lo,h.reg,?_,fun x hx=> ?_⟩
   ·refine zvW.2 ⟨h.fl.1,by simp,fun a ha b hb e=> ?_⟩;rw[zvm] at hb;subst hb;subst e;simp[ha] at hc
   ·simp only[zuY,zvm] at hx;rcases hx with hx|rfl
    ·exact h.fl.2 x hx
    ·unfold qS at hq;split at hq
     ·simp at hq
     ·rename_i hlt;rw[zuI] at hq;obtain⟨c,h1,_⟩:=hq;have:=(zuJ.1 h1).1;omega
 exact h.enter key.1 key.2.1 key.2.2
theorem EntV.close{e:Ent}(h:EntV e)(t:List Rw)(js:List Jo):EntV (yv t js e).2.1:=by
 have hL:=h.l;unfold yv;split
 ·exact h
 rename_i hp;simp only;have hok:=zdM t ⟨e.j,yE e.first e.touched,e.s.book,e.s.perm,e.s.judge,e.s.cap,e.s.life,e.s.up⟩ (zcG hL) h.lo (rows:=zt ltB e.s.reg) (by rw[zJ];exact hL.rl);generalize jw t ⟨e.j,yE e.first e.touched,e.s.book,e.s.perm,e.s.judge,e.s.cap,e.s.life,e.s.up⟩ (qH e) e.s.l (zt ltB e.s.reg)=m at *;split
 ·exact h
 rename_i h0;obtain⟨⟨k1,k2,k3⟩,_,k4⟩:=hok (by simpa using h0);split
 ·exact h
 simp only[Decidable.not_not] at hp;have hpp:=hp;simp[zm,yE] at hpp;have hf:=h.p;simp[zm] at hf;have hcl:=h.cl;refine⟨h.p,by simp only[zuM,zuS];omega,k4,h.reg,?_,by simp only[zuM,zuS];omega,fun c hc=> ?_,fun k hk=> ?_⟩
 ·exact h.fl.mono (by simp)
 ·simp only[zuY,zvm] at hc;rcases hc with hc|rfl
  ·exact h.cs c hc
  ·exact⟨k1,k2,h.lo,k3⟩
 ·simp only[zuM,zuS] at hk;by_cases hkl:k<e.cs.length
  ·simp only[zwD hkl];exact h.cf k hkl
  ·obtain rfl:k=e.cs.length:=by omega
   simp;exact h.fl
theorem EntV.reop{e:Ent}(h:EntV e)(js:List Jo):EntV (yW js e).2.1:=by
 unfold yW;split
 ·exact h
 rename_i h0;split
 ·exact h
 rename_i c hc;simp only;split
 ·exact h
 obtain⟨ys,hys⟩:=zxg.1 hc;have hcl:=h.cl;have hdl:e.cs.dropLast=ys:=by rw[hys,zxc]
 have hyl:e.cs.length=ys.length+1:=by rw[hys];simp
 have hcm:c∈e.cs:=by rw[hys];simp
 have ht:(Yn e.touched).2.length=e.touched.length-1:=by
  simp only[ne_eq,Decidable.not_not] at h0;unfold Yn at h0⊢;split at h0
  ·simp at h0
  ·split at h0
   ·simp at h0
   ·rename_i a b;rw[zuQ a,zuQ b,zu0];omega
 refine⟨h.p,by simp only[ht];have:=h.hi;omega,(h.cs c hcm).2.2.1,h.reg,?_,by simp only[ht,hdl];omega,fun x hx=> ?_,fun k hk=> ?_⟩
 ·simp only[hdl];have:=h.cf ys.length (by omega);simp only[hys] at this;simpa using this
 ·simp only[hdl] at hx;exact h.cs x (by rw[hys];exact zvX _ hx)
 ·simp only[hdl] at hk⊢;have:=h.cf k (by omega);simp only[hys,zwD hk] at this;exact this
theorem EntV.tell{e:Ent}(h:EntV e)(t:List Rw)(js:List Jo)(c:Cmd):EntV (yi t js e c).2.1:=by
 unfold yi;split
 ·exact h.enter h.lo h.reg h.fl
 split
 ·exact h.enter h.lo h.reg h.fl
 split
 ·exact h.enter h.lo (h.reg.move _ _ _) h.fl
 split
 ·exact h.enter h.lo (h.reg.reclass _ _ _ _ _) h.fl
 split
 ·refine h.enter ?_ ?_ ?_<;>(unfold zbD;split<;>first|exact h.lo|exact h.reg|exact h.fl)
 split
 ·refine h.enter ?_ ?_ ?_<;>(unfold zbq;split<;>first|exact h.lo|exact h.reg|exact h.fl)
 split
 ·exact h.file _ _
 split
 ·exact h.close _ _
 ·exact h.reop _
theorem zcI{js:List Jo}(h:StoL js)(id:ByteArray)(p kind of:Int)(ls:List Li):StoL (jf js id p kind of ls).2.2:=by
 unfold jf;split
 ·exact h
 split
 ·exact h
 rename_i h1;split
 ·exact h
 rename_i h2;split
 ·exact h
 refine⟨by simp only[zuM,zuS];omega,fun j hj=> ?_⟩;simp only[zuY,zvm] at hj;rcases hj with hj|rfl
 ·exact h.l j hj
 ·exact zac (zdH (by simpa using h1))
theorem zrs{js:List Jo}(h:StoL js)(t:List Rw)(e:Ent)(c:Cmd):StoL (yi t js e c).2.2:=by
 unfold yi
 repeat' split
 all_goals try exact h
 ·unfold yv;split
  ·exact h
  simp only;split
  ·exact h
  split
  ·exact zcI h _ _ _ _ _
  ·exact zcI h _ _ _ _ _
 ·unfold yW;split
  ·exact h
  split
  ·exact h
  simp only;split
  ·exact zcI h _ _ _ _ _
  ·exact zcI h _ _ _ _ _
theorem zlw{c:List Pa}(hl:c.length≤100)(hu:c.Pairwise unP)(s b:ByteArray)(n:Int):(j9 c s b n).2.length≤100∧(j9 c s b n).2.Pairwise unP:=by
 unfold j9;split
 ·exact⟨hl,hu⟩
 simp only;split
 ·exact⟨hl,hu⟩
 split
 ·exact⟨hl,hu⟩
 ·rename_i h;refine⟨by simp only[zJ];omega,?_⟩;exact((yB ltP (jQ c s b (wr (Yk c s b+n)))).pairwise_iff (fun{x y} hxy=>fun e=>hxy ⟨e.1.symm,e.2.symm⟩)).2 (za9 hu _ _ _)
theorem zmX{t:List Rw}(h:t.length≤24)(j:ByteArray)(y r p:Int):(JJ t j y r p).2.length≤24:=by
 unfold JJ
 repeat' split
 all_goals first|exact h|(simp only[zuM,zuS];omega)
structure GrpV(m:Gm):Prop where
 t:m.t.length≤24
 s:StoL m.js
 n:m.ms.length≤4
 c:m.c.length≤100
 cu:m.c.Pairwise unP
 e:∀x∈m.ms,EntV x.2
theorem GrpV.l{m:Gm}(h:GrpV m):GrpL m:=⟨h.t,h.s,h.n,h.c,h.cu,fun x hx=>(h.e x hx).l⟩
theorem ztJ:GrpV ⟨[],[],[],[]⟩:=⟨by simp,⟨by simp,fun j hj=>by simp at hj⟩,by simp,by simp,.nil,fun x hx=>by simp at hx⟩
theorem zji{m:Gm}{c:Cmd}{e:Ent}(h:(ZN m c).2=some e):m.ms.length<4∧EntV e:=by
 unfold ZN at h;split at h
 ·simp at h
 split at h
 ·simp at h
 rename_i h4;split at h
 ·simp at h
 split at h
 ·rename_i hok;simp only[zuE] at h;subst h;exact⟨by omega,zoe hok.2.2.2⟩
 ·simp at h
theorem GrpV.done{m m':Gm}(h:GrpV m){k:Int}{c:Cmd}{r:Int}(hd:zaG m k c r m'):GrpV m':=by
 unfold zaG at hd;split at hd
 ·rw[hd.2];exact h
 split at hd
 ·rw[hd.2];exact⟨zmX h.t _ _ _ _,h.s,h.n,h.c,h.cu,h.e⟩
 split at hd
 ·obtain⟨_,hd⟩:=hd;cases hq:(ZN m c).2 with
  |none=>rw[hq] at hd;rw[hd];exact h
  |some e=>
   rw[hq] at hd;obtain⟨o',rfl⟩:=hd;obtain⟨h4,hv⟩:=zji hq;refine⟨h.t,h.s,by simp only[zuM,zuS];omega,h.c,h.cu,fun x hx=> ?_⟩;simp only[zuY,zvm] at hx;rcases hx with hx|rfl
   ·exact h.e x hx
   ·exact hv
 split at hd
 ·rw[hd.2];have:(Yf m c).2.length≤100∧(Yf m c).2.Pairwise unP:=by
   unfold Yf;split
   ·exact⟨h.c,h.cu⟩
   ·exact zlw h.c h.cu _ _ _
  exact⟨h.t,h.s,h.n,this.1,this.2,h.e⟩
 split at hd
 ·rw[hd.2];exact h
 ·rename_i x hx;obtain⟨_,a,b,o',hm,rfl⟩:=hd;have hxm:x∈m.ms:=zv7 hx;have hn:=h.n;rw[hm] at hn;refine⟨h.t,zrs h.s _ _ _,by simpa using hn,h.c,h.cu,fun y hy=> ?_⟩;simp only[zuY,zuX] at hy;rcases hy with hy|rfl|hy
  ·exact h.e y (by rw[hm];simp[hy])
  ·exact(h.e x hxm).tell _ _ _
  ·exact h.e y (by rw[hm];simp[hy])
def Sor{α:Type}(lt:α→α→Bool)(l:List α):Prop:=l.Pairwise fun a b=>lt a b=true
theorem ZM{α:Type}{lt:α→α→Bool}(tr:∀a b c,lt a b=true→lt b c=true→lt a c=true){b:α}:∀{l:List α},Sor lt l→(∀x∈l,lt b x=true∨lt x b=true)→Sor lt (ZL lt b l)
 |[],_,_=>by simp[ZL,Sor]
 |x::l,h,ht=>by
  obtain⟨h1,h2⟩:=zu7.1 h;rw[ZL];split
  ·rename_i hb;refine zu7.2 ⟨fun y hy=> ?_,h⟩;rw[zuX] at hy;rcases hy with rfl|hy
   ·exact hb
   ·exact tr _ _ _ hb (h1 y hy)
  ·rename_i hb;refine zu7.2 ⟨fun y hy=> ?_,ZM tr h2 fun y hy=>ht y (zvD _ hy)⟩;have:=(jk lt b l).mem_iff.1 hy;rw[zuX] at this;rcases this with rfl|hy
   ·exact(ht x (by simp)).resolve_left hb
   ·exact h1 y hy
theorem q6{α:Type}{lt:α→α→Bool}(tr:∀a b c,lt a b=true→lt b c=true→lt a c=true):∀{l:List α},jH lt l=true→Sor lt (zt lt l)
 |[],_=> .nil
 |x::l,h=>by simp only[jH,zuP,zu4] at h;rw[zt];refine ZM tr (q6 tr h.2) fun y hy=> ?_;have:=h.1 y ((yB lt l).mem_iff.1 hy);simpa[zvJ] using this
theorem YO{α:Type}{lt:α→α→Bool}(as:∀a b,lt a b=true→lt b a=true→False):∀{l m:List α},l.Perm m→Sor lt l→Sor lt m→l=m
 |[],m,p,_,_=>(List.nil_perm.1 p).symm
 |x::l,[],p,_,_=>by have:=p.length_eq;simp at this
 |x::l,y::m,p,h1,h2=>by
  obtain⟨a1,a2⟩:=zu7.1 h1;obtain⟨b1,b2⟩:=zu7.1 h2;have hxy:x=y:=by
   have hx:=p.mem_iff.1 (zvT (a:=x) (l:=l));have hy:=p.mem_iff.2 (zvT (a:=y) (l:=m));rw[zuX] at hx hy;rcases hx with hx|hx
   ·exact hx
   rcases hy with hy|hy
   ·exact hy.symm
   exact(as _ _ (a1 y hy) (b1 x hx)).elim
  subst hxy;rw[YO as (List.perm_cons _|>.1 p) a2 b2]
theorem zgs(a b c:Bu)(h1:ltB a b=true)(h2:ltB b c=true):ltB a c=true:=by simp only[ltB,zvJ,zuP,zuW,zwf] at *;omega
theorem zn1(a b:Bu)(h1:ltB a b=true)(h2:ltB b a=true):False:=by simp only[ltB,zvJ,zuP,zuW,zwf] at *;omega
theorem zmw{l:List Bu}(h:l.Pairwise unB):l.Nodup:=h.imp fun h e=>h (by rw[e];exact⟨rfl,rfl⟩)
theorem YF:∀{l:List Bu} {b:Bu},l.Pairwise unB→b∈l→getD l b.c b.y=b.n
 |x::l,b,h,hb=>by
  obtain⟨h1,h2⟩:=zu7.1 h;rw[ji];rw[zuX] at hb;rcases hb with rfl|hb
  ·rw[zuO (yY.2 ⟨rfl,rfl⟩)]
  ·rw[zuQ,YF h2 hb];rw[yY];exact h1 b hb
theorem getD_none:∀{l:List Bu} {c y:Int},(∀b∈l,¬(b.c=c∧b.y=y))→getD l c y=0
 |[],_,_,_=>rfl
 |x::l,c,y,h=>by rw[ji,zuQ (by rw[yY];exact h x (by simp)),getD_none fun b hb=>h b (zvD _ hb)]
theorem zlO{l m:List Bu}(h:l.Pairwise unB)(h':m.Pairwise unB)(p:l.Perm m)(c y:Int):getD l c y=getD m c y:=by
 by_cases hk:∃b∈l,b.c=c∧b.y=y
 ·obtain⟨b,hb,rfl,rfl⟩:=hk;rw[YF h hb,YF h' (p.mem_iff.1 hb)]
 ·have hk':∀b∈l,¬(b.c=c∧b.y=y):=fun b hb e=>hk ⟨b,hb,e⟩;rw[getD_none hk',getD_none fun b hb=>hk' b (p.mem_iff.2 hb)]
theorem zib{c y n:Int}:∀{l:List Bu},l.Pairwise unB→∀b:Bu,b.n≠0→(b∈jZ c y n l↔(b∈l∧¬(b.c=c∧b.y=y))∨b=⟨c,y,n⟩)
 |[],_,b,hb=>by
  rw[jZ];split
  ·simp
  ·rename_i h;simp at h;simp;rintro rfl;exact hb h
 |x::l,h,b,hb=>by
  obtain⟨h1,h2⟩:=zu7.1 h;rw[jZ];split
  ·rename_i hk;obtain⟨rfl,rfl⟩:=yY.1 hk;simp only[zuX];constructor
   ·rintro(rfl|hm)
    ·exact .inr rfl
    ·exact .inl ⟨.inr hm,fun e=>h1 b hm ⟨e.1.symm,e.2.symm⟩⟩
   ·rintro(⟨rfl|hm,hn⟩|rfl)
    ·exact absurd ⟨rfl,rfl⟩ hn
    ·exact .inr hm
    ·exact .inl rfl
  ·rename_i hk;rw[yY] at hk;simp only[zuX,zib h2 b hb];constructor
   ·rintro(rfl|⟨hm,hn⟩|rfl)
    ·exact .inl ⟨.inl rfl,hk⟩
    ·exact .inl ⟨.inr hm,hn⟩
    ·exact .inr rfl
   ·rintro(⟨rfl|hm,hn⟩|rfl)
    ·exact .inl rfl
    ·exact .inr (.inl ⟨hm,hn⟩)
    ·exact .inr (.inr rfl)
theorem zcF(b:Bu):∀l:List Bu,znI b l=ZL ltB b l
 |[]=>rfl
 |x::l=>by rw[znI,ZL,zcF b l]
theorem zgN{l:List Bu}(h:l.Pairwise unB)(hz:∀b∈l,b.n≠0)(c y n:Int):zgM (zt ltB l) c y n=zt ltB (jF l c y n):=by
 have p:=yB ltB l;have hs:=q6 zgs (Qt h);have hf:Sor ltB ((zt ltB l).filter fun b=> !jm c y b):=hs.sublist zwi;have hsor:Sor ltB (zgM (zt ltB l) c y n):=by
  unfold zgM;simp only;split
  ·exact hf
  ·rw[zcF];refine ZM zgs hf fun x hx=> ?_;have:=(zvx.1 hx).2;simp only[zwR,zxO,ne_eq,yY] at this;simp only[ltB,zvJ,zuP,zuW,zwf];omega
 have hun:=zbd h c y n;refine YO zn1 ?_ hsor (q6 zgs (Qt hun));refine List.Perm.trans ?_ (yB ltB (jF l c y n)).symm;have hnd:(zgM (zt ltB l) c y n).Nodup:=List.Pairwise.imp (R:=fun a b=>ltB a b=true) (S:=fun a b=>a≠b) (fun{a b} h (e:a=b)=>by subst e;exact zn1 _ _ h h) hsor;refine(List.perm_ext_iff_of_nodup hnd (zmw hun)).2 fun b=> ?_;unfold zgM jF;simp only[zvx];by_cases hb:b.n=0
 ·simp only[hb,beq_self_eq_true,Bool.not_true,zva,and_false,iff_false];split
  ·rw[zvx];rintro⟨hm,_⟩;exact hz b (p.mem_iff.1 hm) hb
  ·rename_i hn;rw[zcF,(jk ltB _ _).mem_iff,zuX,zvx];rintro(rfl|⟨hm,_⟩)
   ·exact hn hb
   ·exact hz b (p.mem_iff.1 hm) hb
 ·rw[zib h b hb];have hb':(!(b.n==0))=true:=by simpa using hb
  simp only[hb',and_true];split
  ·rename_i hn;rw[zvx,p.mem_iff];simp only[zwR,zxO,ne_eq,yY];constructor
   ·exact .inl
   ·rintro(h|rfl)
    ·exact h
    ·exact absurd hn hb
  ·rw[zcF,(jk ltB _ _).mem_iff,zuX,zvx,p.mem_iff];simp only[zwR,zxO,ne_eq,yY];constructor
   ·rintro(rfl|h)
    ·exact .inr rfl
    ·exact .inl h
   ·rintro(h|rfl)
    ·exact .inr h
    ·exact .inl rfl
theorem zgO{l:List Bu}{c y n:Int}:∀b∈jF l c y n,b.n≠0:=fun b hb=>by simpa using(zvx.1 hb).2
theorem ziz{l m:List Bu}(p:l.Perm m):yL l=yL m:=zix _ p
theorem zeV{l:List Bu}(h:l.Pairwise unB)(c y:Int):getD (zt ltB l) c y=getD l c y:=by
 have p:=yB ltB l;have hu:(zt ltB l).Pairwise unB:=(q6 zgs (Qt h)).imp fun{a b} hl e=>by simp only[ltB,zvJ,zuP,zuW,zwf] at hl;omega
 exact zlO hu h p c y
theorem zqT{l:List Bu}(h:l.Pairwise unB)(hz:∀b∈l,b.n≠0)(c y n:Int):zdR (zt ltB l) c y n=((jx l c y n).1,zt ltB (jx l c y n).2):=by
 unfold zdR jx;simp only[zeV h,ziz (yB ltB l),zgN h hz,zJ]
 repeat' split
 all_goals rfl
theorem zjF{l:List Bu}(h:l.Pairwise unB)(hz:∀b∈l,b.n≠0)(c y c2 y2 n:Int):za6 (zt ltB l) c y c2 y2 n=((ya l c y c2 y2 n).1,zt ltB (ya l c y c2 y2 n).2):=by
 unfold za6 ya;simp only[zeV h,zgN h hz,zgN (zbd h _ _ _) zgO,zJ]
 repeat' split
 all_goals rfl
theorem zqU{l:List Bu}(hz:∀b∈l,b.n≠0)(c y n:Int):∀b∈(jx l c y n).2,b.n≠0:=by
 unfold jx
 repeat' split
 all_goals first|exact hz|exact zgO
theorem zjG{l:List Bu}(hz:∀b∈l,b.n≠0)(c y c2 y2 n:Int):∀b∈(ya l c y c2 y2 n).2,b.n≠0:=by
 unfold ya
 repeat' split
 all_goals first|exact hz|exact zgO
theorem zau{s n:Int}(h:za s=true):qz s n=zcQ s n:=by
 unfold qz zcQ;by_cases hn:za n=true
 ·have:wr (s+n)=s+n:=Jm h hn;simp only[hn,this]
 ·simp only[hn];simp
theorem zcR{s n:Int}(h:za s=true):za (zcQ s n).2=true:=by
 unfold zcQ;split
 ·exact h
 split
 ·exact h
 ·rename_i hc;simpa using hc
theorem zjq(a b c:Vi)(h1:ltV a b=true)(h2:ltV b c=true):ltV a c=true:=by simp only[ltV,zvJ,zuP,zuW,zwf] at *;omega
theorem ztt(a b:Vi)(h1:ltV a b=true)(h2:ltV b a=true):False:=by simp only[ltV,zvJ,zuP,zuW,zwf] at *;omega
theorem zsl{a b:Vi}(h:ltV a b=true):a.e≤b.e:=by simp only[ltV,zvJ,zuP,zuW,zwf] at h;omega
theorem zgl(y:Int):∀{l:List Vi},Sor ltV l→yD y l=Q0 l y
 |[],_=>rfl
 |v::l,h=>by
  obtain⟨h1,h2⟩:=zu7.1 h;unfold yD Q0;rw[zwq];split
  ·rename_i hv;rw[zuQ (by simp[hv])];exact zgl y h2
  ·rename_i hv;rw[zuO (by simpa using hv)];congr 1;refine(List.filter_eq_self.2 fun b hb=> ?_).symm;have:=zsl (h1 b hb);simp only[zwR,zvY];omega
theorem zku(y:Int):∀{l:List Vi},Sor ltV l→qu y l=zdz l y
 |[],_=>rfl
 |v::l,h=>by
  obtain⟨h1,h2⟩:=zu7.1 h;unfold qu zdz;rw[zwq];split
  ·rename_i hv;rw[zuO (by simp[hv]),zku y h2];simp[zx,zdz]
  ·rename_i hv;rw[zuQ (by simpa using hv)];rw[List.filter_eq_nil_iff.2 fun b hb=> ?_]
   ·rfl
   have:=zsl (h1 b hb);simp only[zuW];omega
theorem zoZ(y:Int):∀(l:List Vi) (left:Int),0≤left→(∀v∈l,0≤v.n)→qd y left l=zbj l y left
 |[],_,_,_=>rfl
 |v::l,left,h,hn=>by
  have e1:qk y left v=if y≤v.e then min v.n (max left 0) else 0:=by unfold qk;rw[show max left 0=left by omega]
  have hv:=hn v (by simp);have h0:0≤left-qk y left v:=by unfold qk;split<;>omega
  rw[qd,zbj];rw[←e1,zoZ y l _ h0 fun b hb=>hn b (zvD _ hb)]
theorem zgg(b:Vi):∀l:List Vi,znK b l=ZL ltV b l
 |[]=>rfl
 |x::l=>by rw[znK,ZL,zgg b l]
theorem zkT(o e n:Int):∀{l:List Vi},l.Pairwise zez→QT o e n l=l.map fun v=>if Yv o e v then{v with n:=v.n+n} else v
 |[],_=>rfl
 |x::l,h=>by
  obtain⟨h1,h2⟩:=zu7.1 h;rw[QT,zu2];split
  ·rename_i hk;have hl:l.map (fun v=>if Yv o e v then{v with n:=v.n+n} else v)=l:=by
    refine(zvo (g:=id) fun b hb=> ?_).trans (List.map_id l);have:=h1 b hb;simp only[Yv,zuP,zwf] at hk⊢;rw[zuQ]
    ·rfl
    ·exact fun e=>this ⟨by omega,by omega⟩
   rw[hl]
  ·rw[zkT o e n h2]
theorem zkz{l:List Vi}(hs:Sor ltV l)(o e n:Int):QQ l o e n=zdL l o e n:=by
 have hu:l.Pairwise zez:=hs.imp fun{a b} h=>zbG.1 (by rw[h];rfl);unfold QQ zdL;by_cases c1:¬y5 o=true∨e<o∨198<e∨n<1∨100000000000<n
 ·rw[zuO c1,zuO];rcases c1 with h|h|h|h|h
  ·exact .inl (by simp[ziA,h])
  ·exact .inl (by simp[ziA];omega)
  ·exact .inl (by simp[ziA];omega)
  ·exact .inr (.inl h)
  ·exact .inr (.inr (by simp[za];omega))
 ·rw[zuQ c1,zuQ]
  ·split
   ·rfl
   split
   ·rw[zkT o e n hu]
   ·rename_i hk;split
    ·rfl
    ·have hd:jH ltV (l++[⟨o,e,n⟩])=true:=by
      rw[y6];refine zxz.2 ⟨hu,by simp,fun a ha b hb=> ?_⟩;rw[zvm] at hb;subst hb;rintro⟨e1,e2⟩;refine hk (zwF.2 ⟨a,ha,?_⟩);simp only[Yv,zuP,zwf];exact⟨e1,e2⟩
     congr 1;rw[zgg];refine YO ztt ?_ (q6 zjq hd) (ZM zjq hs fun x hx=> ?_)
     ·exact((yB ltV _).trans List.perm_append_comm).trans (jk ltV _ l).symm
     ·have:zez ⟨o,e,n⟩ x:=fun⟨e1,e2⟩=>hk (zwF.2 ⟨x,hx,by simp only[Yv,zuP,zwf];exact⟨e1.symm,e2.symm⟩⟩);simpa[zvJ] using zbG.2 this
  ·intro h;refine c1 ?_;by_cases hy:y5 o=true
   ·simp[ziA,hy,za] at h;omega
   ·exact .inl hy
theorem zhy{l:List Vi}(h:Sor ltV l)(y:Int):Sor ltV (Q0 l y):=h.sublist zwi
theorem zbK{book perm moved:Int}:Jv book perm moved=true↔za book=true∧za perm=true∧za moved=true∧za (book+perm-moved)=true:=by
 have e:book+(perm+ -moved)=book+perm-moved:=by omega
 simp only[Jv,Jw,zwp,List.all_nil,zxm,zuP,zwm,List.sum_nil,zxH,e];have h:za (-moved)=true↔za moved=true:=by simp only[za,zuW];omega
 rw[h];exact⟨fun⟨a,⟨b,c,_⟩,d⟩=>⟨b,c,a,d⟩,fun⟨a,b,c,d⟩=>⟨c,⟨a,b,c⟩,d⟩⟩
theorem zrd{n cap:Int}(hn:0<n)(hm:za n=true)(hc:zn cap=true):jE n cap=zjf n cap:=by unfold jE zjf;rw[zuO,zuO (by omega)];refine⟨by omega,?_⟩;simp[Zt,zn,za] at *;omega
theorem zj2{l:List Vi}(hI:LosI l)(hs:Sor ltV l)(book perm moved cap life year r:Int):(Zz l book perm moved cap life year r).1=(zcu l book perm moved cap life year r).1∧((zcu l book perm moved cap life year r).1=0→Zz l book perm moved cap life year r=zcu l book perm moved cap life year r):=by
 have hk:=zgl year hs;have hg:=zku year hs;have hkI:=hI.kept year;have hkn:∀v∈Q0 l year,0≤v.n:=fun v hv=>(hkI.m v (hk▸hv)).1;unfold Zz zcu;simp only[hk,hg];split
 ·exact⟨rfl,fun h=>absurd h (by simp)⟩
 rename_i k1;by_cases k2:Jv book perm moved=true
 ·obtain⟨m1,m2,m3,m4⟩:=zbK.1 k2;simp only[k2,m1,m2,m3,m4,not_true_eq_false,if_false,or_false];generalize book+perm-moved=n at *;split
  ·rename_i hn;have hc:zn cap=true:=by
    cases h:zn cap with
    |true=>rfl
    |false=>exact absurd (.inl (by simp[h])) k1
   have hr:=Qh n cap m4;rw[zoZ year (Q0 l year) (jE n cap) hr.1 hkn,zrd hn m4 hc];exact⟨rfl,fun _=>rfl⟩
  ·split
   ·rw[zkz (zhy hs year)];generalize zdL (Q0 l year) year (year+life) (-n)=a;obtain⟨a1,a2⟩:=a;by_cases h:a1=0
    ·subst h;exact⟨rfl,fun _=>rfl⟩
    ·simp only[zuQ h];exact⟨trivial,fun h2=>absurd h2 h⟩
   ·exact⟨rfl,fun _=>rfl⟩
 ·have hne:¬za book=true∨¬za perm=true∨¬za moved=true∨¬za (book+perm-moved)=true:=by
   refine Classical.byContradiction fun h=>k2 (zbK.2 ?_);simp only[not_or,Decidable.not_not] at h;exact h
  simp only[zuO k2,zuO hne];exact⟨trivial,fun h=>absurd h (by decide)⟩
theorem zkA{a b c d:Vi}(h1:a.o=c.o)(h2:a.e=c.e)(h3:b.o=d.o)(h4:b.e=d.e):ltV a b=ltV c d:=by simp only[ltV,h1,h2,h3,h4]
theorem zld:∀{l:List Vi} {us:List Int} {b:Vi},b∈List.zipWith Yd l us→∃x∈l,b.o=x.o∧b.e=x.e
 |[],_,b,h=>by simp at h
 |_::_,[],b,h=>by simp at h
 |v::l,u::us,b,h=>by
  rw[zxq,zuX] at h;rcases h with rfl|h
  ·exact⟨v,by simp,rfl,rfl⟩
  ·obtain⟨x,hx,h1⟩:=zld h;exact⟨x,zvD _ hx,h1⟩
theorem zle:∀{l:List Vi} (us:List Int),Sor ltV l→Sor ltV (List.zipWith Yd l us)
 |[],_,_=>by simp[Sor]
 |_::_,[],_=>by simp[Sor]
 |v::l,u::us,h=>by obtain⟨h1,h2⟩:=zu7.1 h;rw[zxq];refine zu7.2 ⟨fun b hb=> ?_,zle us h2⟩;obtain⟨x,hx,e1,e2⟩:=zld hb;rw[zkA (a:=Yd v u) (c:=v) (d:=x) rfl rfl e1 e2];exact h1 x hx
theorem zoV{l:List Vi}(h:Sor ltV l)(us:List Int):Sor ltV (Q6 l us):=by rw[zbV];exact(zle us h).sublist zwi
theorem zpZ{l:List Vi}(h:Sor ltV l)(o e n:Int):Sor ltV (QQ l o e n).2:=by
 have hu:l.Pairwise zez:=h.imp fun{a b} h=>zbG.1 (by rw[h];rfl);rw[zkz h];unfold zdL;split
 ·exact h
 split
 ·exact h
 split
 ·refine zwS.2 (h.imp fun{a b} hl=> ?_);rw[zkA (c:=a) (d:=b)]
  ·exact hl
  all_goals(split<;>rfl)
 ·rename_i hk;split
  ·exact h
  ·simp only;rw[zgg];refine ZM zjq h fun x hx=> ?_;have:zez ⟨o,e,n⟩ x:=fun⟨e1,e2⟩=>hk (zwF.2 ⟨x,hx,by simp only[Yv,zuP,zwf];exact⟨e1.symm,e2.symm⟩⟩);simpa[zvJ] using zbG.2 this
theorem zrr{l:List Vi}(h:Sor ltV l){book perm moved cap life year r:Int}{res:Res}{left:List Vi}(ht:Zz l book perm moved cap life year r=(0,res,left)):Sor ltV left:=by
 have hk:Sor ltV (yD year l):=by rw[zgl year h];exact zhy h year
 unfold Zz at ht;split at ht
 ·simp at ht
 split at ht
 ·simp at ht
 simp only at ht;split at ht
 ·simp only[zuH,true_and] at ht;obtain⟨_,rfl⟩:=ht;exact zoV hk _
 ·split at ht
  ·split at ht
   ·simp only[zuH,true_and] at ht;obtain⟨_,rfl⟩:=ht;exact zpZ hk _ _ _
   ·rename_i hh;simp only[zuH] at ht;exact absurd ht.1 hh
  ·simp only[zuH,true_and] at ht;obtain⟨_,rfl⟩:=ht;exact hk
theorem zeX(a b:UInt8)(x y:List UInt8):Op.bytesLess (a::x) (b::y)=true↔a.toNat<b.toNat∨(a.toNat=b.toNat∧Op.bytesLess x y=true):=by simp only[Op.bytesLess,zvJ,zuP,zuW,zwf,UInt8.lt_iff_toNat_lt,←UInt8.toNat_inj]
theorem zhD(x:List UInt8):Op.bytesLess x []=false:=by cases x<;>rfl
theorem zkx:∀(x y z:List UInt8),Op.bytesLess x y=true→Op.bytesLess y z=true→Op.bytesLess x z=true
 |_,_,[],_,h=>by rw[zhD] at h;cases h
 |_,[],_::_,h,_=>by rw[zhD] at h;cases h
 |[],_::_,_::_,_,_=>by simp[Op.bytesLess]
 |a::x,b::y,c::z,h1,h2=>by
  rw[zeX] at *;rcases h1 with h1|⟨h1,k1⟩
  ·rcases h2 with h2|⟨h2,k2⟩
   ·exact .inl (by omega)
   ·exact .inl (by omega)
  ·rcases h2 with h2|⟨h2,k2⟩
   ·exact .inl (by omega)
   ·exact .inr ⟨by omega,zkx x y z k1 k2⟩
theorem zhC:∀(x:List UInt8),Op.bytesLess x x=false
 |[]=>rfl
 |a::x=>by
  cases h:Op.bytesLess (a::x) (a::x) with
  |false=>rfl
  |true=>
   rw[zeX] at h;rcases h with h|⟨_,h⟩
   ·omega
   ·rw[zhC x] at h;cases h
theorem zjp{a b c:ByteArray}(h1:ltS a b=true)(h2:ltS b c=true):ltS a c=true:=zkx _ _ _ h1 h2
theorem zbF{a b:ByteArray}(h1:ltS a b=true)(h2:ltS b a=true):False:=by have:=zjp h1 h2;unfold ltS at this;rw[zhC] at this;cases this
theorem zgt{a b:Pa}:ltP a b=true↔ltS a.s b.s=true∨(a.s=b.s∧ltS a.b b.b=true):=by simp only[ltP,zvJ,zuP,yj,zuW]
theorem zjn(a b c:Pa)(h1:ltP a b=true)(h2:ltP b c=true):ltP a c=true:=by
 rw[zgt] at *;rcases h1 with h1|⟨h1,k1⟩
 ·rcases h2 with h2|⟨h2,k2⟩
  ·exact .inl (zjp h1 h2)
  ·exact .inl (h2▸h1)
 ·rcases h2 with h2|⟨h2,k2⟩
  ·exact .inl (h1▸h2)
  ·exact .inr ⟨h1.trans h2,zjp k1 k2⟩
theorem zn2(a b:Pa)(h1:ltP a b=true)(h2:ltP b a=true):False:=by
 rw[zgt] at *;rcases h1 with h1|⟨h1,k1⟩
 ·rcases h2 with h2|⟨h2,k2⟩
  ·exact zbF h1 h2
  ·rw[h2] at h1;exact zbF h1 h1
 ·rcases h2 with h2|⟨h2,k2⟩
  ·rw[h1] at h2;exact zbF h2 h2
  ·exact zbF k1 k2
theorem zgf(b:Pa):∀l:List Pa,znJ b l=ZL ltP b l
 |[]=>rfl
 |x::l=>by rw[znJ,ZL,zgf b l]
theorem zqL{a b:Pa}(h:ltP a b=true):unP a b:=fun⟨e1,e2⟩=>by
 rw[zgt,e1,e2] at h;rcases h with h|⟨_,h⟩
 ·exact zbF h h
 ·exact zbF h h
theorem zgI{c:List Pa}(hs:Sor ltP c)(s b:ByteArray)(v:Int):zt ltP (jQ c s b v)=if v=0 then c.filter (fun x=> !Zk s b x) else znJ ⟨s,b,v⟩ (c.filter fun x=> !Zk s b x):=by
 have hf:Sor ltP (c.filter fun x=> !Zk s b x):=hs.sublist zwi;have hu:c.Pairwise unP:=hs.imp fun{a b} h=>zqL h;have hd:=zaf (za9 hu s b v);have hsr:=q6 zjn hd;have hp:=yB ltP (jQ c s b v);unfold jQ at *;simp only at *;split
 ·rename_i h;rw[zuO h] at hsr hp;exact YO zn2 hp hsr hf
 ·rename_i h;rw[zuQ h] at hsr hp;rw[zgf];refine YO zn2 ?_ hsr (ZM zjn hf fun x hx=> ?_)
  ·exact(hp.trans List.perm_append_comm).trans (jk ltP _ _).symm
  ·have hk:=(zvx.1 hx).2;have:unP ⟨s,b,v⟩ x:=fun⟨e1,e2⟩=>by
    simp[Zk,←e1,←e2,yj] at hk
   have:=zjo this;simpa[zvJ] using this
theorem znh{c:List Pa}(hs:Sor ltP c)(hm:∀x∈c,za x.n=true)(s b:ByteArray)(n:Int):j9 c s b n=zi0 c s b n:=by
 have hp:za (Yk c s b)=true:=by
  unfold Yk;split
  ·rename_i x h;exact hm x (zv7 h)
  ·decide
 unfold j9 zi0;split
 ·rfl
 rename_i h1;have hn:za n=true:=by
  cases h:za n with
  |true=>rfl
  |false=>exact absurd (.inr (.inr (.inr (by simp[h])))) h1
 have hw:wr (Yk c s b+n)=Yk c s b+n:=Jm hp hn;simp only[hw];split
 ·rfl
 have hl:=congrArg List.length (zgI hs s b (Yk c s b+n));rw[zJ] at hl;rw[zgI hs s b,hl]
def PerV(e:Ent):Prop:=∀(k:Nat) (h:k<e.cs.length),e.cs[k].p.inp.p=e.first+(k:Int)
theorem zkS{e:Ent}(hk:PerV e)(p:Int):qS e p=Jx e p:=by
 unfold qS Jx;by_cases h1:p<e.first
 ·rw[zuO h1,zwC.2]
  ·rfl
  ·intro c hc;obtain⟨k,hk',rfl⟩:=zwU hc;have:=hk k hk';simp only[zwf];omega
 ·rw[zuQ h1];cases h2:e.cs.find? fun c=>c.p.inp.p==p with
  |none=>
   rw[zvK];refine Nat.le_of_not_lt fun hlt=> ?_;have h3:=hk _ hlt;have:=zwC.1 h2 _ (zvk hlt);simp only[zwf] at this;omega
  |some c=>
   have h3:=List.find?_some h2;simp only[zwf] at h3;obtain⟨k,hk',rfl⟩:=zwU (zv7 h2);have h4:=hk k hk';have:(p-e.first).toNat=k:=by omega
   rw[this,zuV hk']
theorem ztu(a b c:Wa)(h1:ltW a b=true)(h2:ltW b c=true):ltW a c=true:=by simp[ltW] at *;omega
theorem zjr(a b:Wa)(h1:ltW a b=true)(h2:ltW b a=true):False:=by simp[ltW] at *;omega
theorem zhM{c y:Int}{f:Wa→Wa}:∀{l:List Wa},Jp l→∀x:Wa,x∈ZU c y f l↔(x∈l∧qG c y x=false)∨(∃w∈l,qG c y w=true∧x=f w)∨((∀w∈l,qG c y w=false)∧x=f (zhS c y))
 |[],_,x=>by simp[ZU]
 |a::l,h,x=>by
  have hd:∀w∈l,zc8 a w:=(zu7.1 h).1;have ih:=zhM (c:=c) (y:=y) (f:=f) (zu7.1 h).2 x;unfold ZU;cases hk:qG c y a with
  |true=>
   have hn:∀w∈l,qG c y w=false:=fun w hw=>by have:=hd w hw;simp[qG,zc8] at hk this⊢;intro e;have h2:=this (by rw[hk.1,e]);rw[hk.2] at h2;exact fun e2=>h2 e2.symm
   simp only[if_true,zuX];constructor
   ·rintro(rfl|hx)
    ·exact .inr (.inl ⟨a,.inl rfl,hk,rfl⟩)
    ·exact .inl ⟨.inr hx,hn x hx⟩
   ·rintro(⟨rfl|hx,h1⟩|⟨w,rfl|hw,h1,rfl⟩|⟨h1,_⟩)
    ·rw[hk] at h1;cases h1
    ·exact .inr hx
    ·exact .inl rfl
    ·rw[hn w hw] at h1;cases h1
    ·rw[h1 a (.inl rfl)] at hk;cases hk
  |false=>
   simp only[zva,if_false,zuX];rw[ih];constructor
   ·rintro(rfl|⟨hx,h1⟩|⟨w,hw,h1,rfl⟩|⟨h1,rfl⟩)
    ·exact .inl ⟨.inl rfl,hk⟩
    ·exact .inl ⟨.inr hx,h1⟩
    ·exact .inr (.inl ⟨w,.inr hw,h1,rfl⟩)
    ·refine .inr (.inr ⟨?_,rfl⟩);rintro w (rfl|hw)
     ·exact hk
     ·exact h1 w hw
   ·rintro(⟨rfl|hx,h1⟩|⟨w,rfl|hw,h1,rfl⟩|⟨h1,rfl⟩)
    ·exact .inl rfl
    ·exact .inr (.inl ⟨hx,h1⟩)
    ·rw[hk] at h1;cases h1
    ·exact .inr (.inr (.inl ⟨w,hw,h1,rfl⟩))
    ·exact .inr (.inr (.inr ⟨fun w hw=>h1 w (.inr hw),rfl⟩))
def zW(c:List Bu)(w:Wa):Wa:=match c.find? (jm w.c w.y) with
 |some b=>{w with z:=b.n}
 |none=>w
def wO(b:Bu):Wa:=⟨b.c,b.y,b.n,0,0⟩
def wZ(b:Bu):Wa:=⟨b.c,b.y,0,0,b.n⟩
theorem QF:∀(c:List Bu) (l:List Wa),c.Pairwise unB→Jp l→∀x:Wa,x∈c.foldl qN l↔(∃w∈l,x=zW c w)∨(∃b∈c,(∀w∈l,qG b.c b.y w=false)∧x=wZ b)
 |[],l,_,_,x=>by simp[zW]
 |b::c,l,hc,hl,x=>by
  obtain⟨hb,hc'⟩:=zu7.1 hc;have hl1:Jp (qN l b):=QK (c:=b.c) (y:=b.y) (f:=fun w=>{w with z:=b.n}) (fun w=>⟨rfl,rfl⟩) hl;have hp:=zhM (c:=b.c) (y:=b.y) (f:=fun w=>{w with z:=b.n}) hl;have hk:∀w:Wa,qG b.c b.y w=true→w.c=b.c∧w.y=b.y:=fun w h=>by simpa[qG] using h
  have hno:∀w:Wa,w.c=b.c→w.y=b.y→zW c w=w:=fun w e1 e2=>by unfold zW;rw[zwC.2];intro d hd;have:=hb d hd;simp[unB] at this;simp[jm,e1,e2];intro e3 e4;exact this e3.symm e4.symm
  have hcons:∀w:Wa,qG b.c b.y w=false→zW (b::c) w=zW c w:=fun w h=>by
   have:jm w.c w.y b=false:=by simp[qG] at h;simp[jm];exact fun e1 e2=>h e1.symm e2.symm
   simp[zW,this]
  have hcons2:∀w:Wa,qG b.c b.y w=true→zW (b::c) w={w with z:=b.n}:=fun w h=>by
   obtain⟨e1,e2⟩:=hk w h;have:jm w.c w.y b=true:=by simp[jm,e1,e2]
   simp[zW,this]
  show x∈c.foldl qN (qN l b)↔_;rw[QF c (qN l b) hc' hl1 x];constructor
  ·rintro(⟨w,hw,rfl⟩|⟨d,hd,h1,rfl⟩)
   ·rcases(hp w).1 hw with⟨h1,h2⟩|⟨w0,h1,h2,rfl⟩|⟨h1,rfl⟩
    ·exact .inl ⟨w,h1,(hcons w h2).symm⟩
    ·refine .inl ⟨w0,h1,?_⟩;obtain⟨e1,e2⟩:=hk w0 h2;rw[hcons2 w0 h2,hno {w0 with z:=b.n} e1 e2]
    ·exact .inr ⟨b,by simp,h1,hno _ rfl rfl⟩
   ·refine .inr ⟨d,by simp[hd],fun w hw=> ?_,rfl⟩;cases hq:qG b.c b.y w with
    |false=>exact h1 w ((hp w).2 (.inl ⟨hw,hq⟩))
    |true=>exact h1 {w with z:=b.n} ((hp {w with z:=b.n}).2 (.inr (.inl ⟨w,hw,hq,rfl⟩)))
  ·rintro(⟨w,hw,rfl⟩|⟨d,hd,h1,rfl⟩)
   ·cases hq:qG b.c b.y w with
    |false=>exact .inl ⟨w,(hp w).2 (.inl ⟨hw,hq⟩),hcons w hq⟩
    |true=>
     obtain⟨e1,e2⟩:=hk w hq;exact .inl ⟨{w with z:=b.n},(hp {w with z:=b.n}).2 (.inr (.inl ⟨w,hw,hq,rfl⟩)),by rw[hcons2 w hq,hno {w with z:=b.n} e1 e2]⟩
   ·rcases zuX.1 hd with rfl|hd
    ·exact .inl ⟨wZ d,(hp _).2 (.inr (.inr ⟨h1,rfl⟩)),(hno _ rfl rfl).symm⟩
    ·refine .inr ⟨d,hd,fun w hw=> ?_,rfl⟩;rcases(hp w).1 hw with⟨h2,h3⟩|⟨w0,h2,h3,rfl⟩|⟨h2,rfl⟩
     ·exact h1 w h2
     ·exact h1 w0 h2
     ·have:=hb d hd;simp[unB] at this;simp[qG,zhS];exact this
theorem zeT:∀(o:List Bu) (l:List Wa),o.Pairwise unB→(∀b∈o,∀w∈l,qG b.c b.y w=false)→o.foldl qv l=l++o.map wO
 |[],l,_,_=>by simp
 |b::o,l,ho,hl=>by
  obtain⟨hb,ho'⟩:=zu7.1 ho;have e1:∀{l:List Wa},(∀w∈l,qG b.c b.y w=false)→ZU b.c b.y (fun w=>{w with o:=b.n}) l=l++[wO b]:=by
   intro l
   induction l with
   |nil=>intro _;rfl
   |cons a l ih=>
    intro h;unfold ZU;rw[h a (by simp)];simp[ih fun w hw=>h w (by simp[hw])]
  have e2:qv l b=l++[wO b]:=e1 (hl b (by simp));show o.foldl qv (qv l b)=_;rw[e2,zeT o _ ho' ?_]
  ·simp
  ·intro d hd w hw;rcases zuY.1 hw with hw|hw
   ·exact hl d (by simp[hd]) w hw
   ·rw[zvm] at hw;subst hw;have:=hb d hd;simp[unB] at this;simp[qG,wO];exact this
theorem zeU{l:List Bu}{c y:Int}:getD l c y=match l.find? (jm c y) with
 |some b=>b.n
 |none=>0:=rfl
theorem zf9{l:List Bu}{c y:Int}(h:getD l c y≠0):∃b∈l,b.c=c∧b.y=y∧b.n=getD l c y:=by
 rw[zeU] at h⊢;cases hf:l.find? (jm c y) with
 |none=>rw[hf] at h;exact absurd rfl h
 |some b=>
  have h1:=zv7 hf;have h2:=List.find?_some hf;simp[jm] at h2;exact⟨b,h1,h2.1,h2.2,rfl⟩
theorem zlb(c:List Bu)(w:Wa)(hz:w.z=0):zW c w={w with z:=getD c w.c w.y}:=by
 unfold zW;rw[zeU];cases c.find? (jm w.c w.y) with
 |none=>simp[←hz]
 |some b=>rfl
theorem zlT:zce.Pairwise fun a b=>a.1<b.1∨(a.1=b.1∧a.2<b.2):=by
 unfold zce;rw[List.pairwise_flatMap];refine⟨fun c _=> ?_,?_⟩
 ·rw[zwS];refine List.pairwise_lt_range.imp fun h=> .inr ⟨rfl,?_⟩;simp only;omega
 ·refine List.pairwise_lt_range.imp fun{a b} h x hx y hy=> ?_;rw[zvV] at hx hy;obtain⟨_,_,rfl⟩:=hx;obtain⟨_,_,rfl⟩:=hy;left;simp only;omega
theorem zeW{c y:Int}:(c,y)∈zce↔1≤c∧c≤9∧0≤y∧y≤99:=by
 unfold zce;simp only[zvR,zvV,zwl,zuH];constructor
 ·rintro⟨a,ha,b,hb,rfl,rfl⟩;omega
 ·rintro⟨h1,h2,h3,h4⟩;exact⟨(c-1).toNat,by omega,y.toNat,by omega,by omega,by omega⟩
structure BuV(l:List Bu):Prop where
 u:l.Pairwise unB
 nz:∀b∈l,b.n≠0
 m:∀b∈l,za b.n=true
 k:∀b∈l,yQ b.c b.y=true
theorem BuV.nil:BuV []:=⟨.nil,(fun b h=>by cases h),(fun b h=>by cases h),(fun b h=>by cases h)⟩
theorem BuV.perm{l m:List Bu}(h:BuV l)(p:l.Perm m):BuV m:=⟨(p.pairwise_iff (fun{x y} hxy e=>hxy ⟨e.1.symm,e.2.symm⟩)).1 h.u,fun b hb=>h.nz b (p.mem_iff.2 hb),fun b hb=>h.m b (p.mem_iff.2 hb),fun b hb=>h.k b (p.mem_iff.2 hb)⟩
theorem BuV.getM{l:List Bu}(h:BuV l)(c y:Int):za (getD l c y)=true:=by
 by_cases h0:getD l c y=0
 ·rw[h0];rfl
 ·obtain⟨b,hb,_,_,e⟩:=zf9 h0;rw[←e];exact h.m b hb
theorem zo6{a b:Int}(ha:za a=true)(hb:za b=true):wr (a-b)=a-b:=by simp[za] at ha hb;exact ze (by omega) (by omega)
theorem zhp{o c:List Bu}(ho:BuV o)(hc:BuV c)(x:Wa):x∈zv o c↔x∈zS o c:=by
 have hO:=zeT o [] ho.u (fun b _ w hw=>by cases hw);have hd:Jp (o.map wO):=by
  have:=zaj o [] .nil
  rwa [hO,zwj] at this
 have hmove:∀k1 k2,Jt ⟨k1,k2,getD o k1 k2,0,getD c k1 k2⟩=⟨k1,k2,getD o k1 k2,getD c k1 k2-getD o k1 k2,getD c k1 k2⟩:=fun k1 k2=>by unfold Jt;simp only;rw[zo6 (hc.getM _ _) (ho.getM _ _)]
 unfold zv zS;rw[(yB ltW _).mem_iff,zvV,hO,zwj,zvV];constructor
 ·rintro⟨w,hw,rfl⟩;rcases(QF c (o.map wO) hc.u hd w).1 hw with⟨v,hv,rfl⟩|⟨b,hb,h1,rfl⟩
  ·obtain⟨b,hb,rfl⟩:=zvV.1 hv;have hg:=YF ho.u hb;refine⟨(b.c,b.y),zvx.2 ⟨zeW.2 ?_,?_⟩,?_⟩
   ·have:=ho.k b hb;simp[yQ,y5] at this;omega
   ·have:=ho.nz b hb;simp[hg,this]
   ·rw[zlb _ _ rfl];show _=Jt ⟨b.c,b.y,b.n,0,getD c b.c b.y⟩;rw[←hg];exact(hmove _ _).symm
  ·have hg:=YF hc.u hb;have h0:getD o b.c b.y=0:=getD_none fun a ha=>by
    have:=h1 (wO a) (zwW ha);simp[qG,wO] at this;exact fun e=>this e.1 e.2
   refine⟨(b.c,b.y),zvx.2 ⟨zeW.2 ?_,?_⟩,?_⟩
   ·have:=hc.k b hb;simp[yQ,y5] at this;omega
   ·have:=hc.nz b hb;simp[hg,this]
   ·have:=hmove b.c b.y;rw[h0,hg] at this;simp only[h0,hg];exact this.symm
 ·rintro⟨⟨k1,k2⟩,hk,rfl⟩;obtain⟨_,hk⟩:=zvx.1 hk;by_cases h0:getD o k1 k2=0
  ·have h1:getD c k1 k2≠0:=by simpa[h0] using hk
   obtain⟨b,hb,rfl,rfl,e⟩:=zf9 h1;refine⟨wZ b,(QF c (o.map wO) hc.u hd _).2 (.inr ⟨b,hb,?_,rfl⟩),?_⟩
   ·intro w hw;obtain⟨a,ha,rfl⟩:=zvV.1 hw;have hg:=YF ho.u ha;simp only[qG,wO,zw3,beq_eq_false_iff_ne];by_cases e1:a.c=b.c
    ·refine .inr fun e2=> ?_;rw[e1,e2] at hg;exact ho.nz a ha (by rw[←hg];exact h0)
    ·exact .inl e1
   ·have:=hmove b.c b.y;rw[h0,←e] at this;simp only[h0,←e];exact this
  ·obtain⟨b,hb,rfl,rfl,e⟩:=zf9 h0;refine⟨_,(QF c (o.map wO) hc.u hd _).2 (.inl ⟨wO b,zwW hb,rfl⟩),?_⟩;rw[zlb _ _ rfl];have:=hmove b.c b.y;rw[←e] at this;simp only[←e];exact this
theorem zfp{α:Type}{lt:α→α→Bool}(as:∀a b,lt a b=true→lt b a=true→False){l:List α}(h:Sor lt l):l.Nodup:=h.imp fun{a b} h e=>by subst e;exact as a a h h
theorem zf6(o c:List Bu):Sor ltW (zS o c):=by unfold zS Sor;rw[zwS];refine(zlT.filter _).imp fun{a b} h=> ?_;simp[ltW];omega
theorem zjg{o c:List Bu}(ho:BuV o)(hc:BuV c):zv o c=zS o c:=by have s1:Sor ltW (zv o c):=q6 ztu (zaN o c);have s2:=zf6 o c;exact YO zjr ((List.perm_ext_iff_of_nodup (zfp zjr s1) (zfp zjr s2)).2 (zhp ho hc)) s1 s2
def zfB(t:List Rw):Prop:=∀x∈t,zn x.r=true
theorem zh8(j:ByteArray)(y p:Int):∀(t:List Rw) (b:Option Rw) (x:Rw),t.foldl (Q2 j y p) b=some x→x∈t∨b=some x
 |[],b,x,h=> .inr h
 |a::t,b,x,h=>by
  rcases zh8 j y p t _ x h with h1|h1
  ·exact .inl (by simp[h1])
  ·unfold Q2 at h1;split at h1
   ·split at h1
    ·simp at h1;exact .inl (by simp[h1])
    ·split at h1
     ·simp at h1;exact .inl (by simp[h1])
     ·exact .inr h1
   ·exact .inr h1
theorem zd8{t:List Rw}(ht:zfB t){j:ByteArray}{y p r:Int}(h:jb t j y p=some r):zn r=true:=by
 unfold jb at h;rw[zuI] at h;obtain⟨x,h1,rfl⟩:=h;rcases zh8 j y p t none x h1 with h2|h2
 ·exact ht x h2
 ·cases h2
theorem Ym{t:List Rw}(ht:zfB t){j:ByteArray}{p:Int}:∀{ys l:List Int},zO t j p ys=some l→l.length=ys.length∧∀r∈l,zn r=true
 |[],l,h=>by simp[zO] at h;subst h;simp
 |y::ys,l,h=>by
  unfold zO at h;cases hr:jb t j (max y (p.tdiv 4)) p with
  |none=>rw[hr] at h;cases h
  |some r=>
   rw[hr] at h;simp only[zuI] at h;obtain⟨l',h1,rfl⟩:=h;obtain⟨h2,h3⟩:=Ym ht h1;refine⟨by simp[h2],fun q hq=> ?_⟩;rcases zuX.1 hq with rfl|hq
   ·exact zd8 ht hr
   ·exact h3 q hq
theorem ze7:∀{l:List Bu} {s:List Int} {c y now:Int},(∀r∈s,zn r=true)→zn now=true→zn (ZS l s c y now)=true
 |[],s,c,y,now,h,hn=>by simpa[ZS] using hn
 |_::_,[],c,y,now,h,hn=>by simpa[ZS] using hn
 |b::l,r::s,c,y,now,h,hn=>by
  unfold ZS;split
  ·exact h r (by simp)
  ·exact ze7 (fun q hq=>h q (by simp[hq])) hn
theorem zd2{op:Bal}(h:∀r∈op.r,zn r=true):∀{l:List Wa} {s:List Int},l.length=s.length→(∀r∈s,zn r=true)→(yA op l s).length=l.length∧∀r∈yA op l s,zn r=true
 |[],s,_,_=>by simp[yA]
 |w::l,[],hl,_=>by simp at hl
 |w::l,n::s,hl,hs=>by
  obtain⟨h1,h2⟩:=zd2 h (l:=l) (s:=s) (by simpa using hl) (fun q hq=>hs q (by simp[hq]));refine⟨by simp[yA,h1],fun q hq=> ?_⟩;unfold yA at hq;rcases zuX.1 hq with rfl|hq
  ·exact ze7 h (hs n (by simp))
  ·exact h2 q hq
structure BalM(x:Bal):Prop where
 b:BuV x.b
 r:∀r∈x.r,zn r=true
 temp:za x.temp=true
 loss:za x.loss=true
 allow:za x.allow=true
theorem ztN:BalM yp:=⟨.nil,(fun r h=>by cases h),rfl,rfl,rfl⟩
theorem zaM(o c:List Bu):(zS o c).length≤900:=by unfold zS;rw[zu9];refine zvz (zv6 _ _) ?_;show zce.length≤900;decide+kernel
theorem zdw{o c:List Bu}(ho:BuV o)(hc:BuV c):∀w∈zS o c,za w.o=true∧za w.z=true∧-200000000000≤w.m∧w.m≤200000000000:=fun w hw=>by unfold zS at hw;obtain⟨k,_,rfl⟩:=zvV.1 hw;have h1:=ho.getM k.1 k.2;have h2:=hc.getM k.1 k.2;refine⟨h1,h2,?_,?_⟩<;>(simp[za] at h1 h2;simp only;omega)
theorem zg2{α:Type}(f:α→Int)(B:Int)(hB:0≤B)(hs:B*1000≤9000000000000000000):∀(l:List α) (n:Int) (k:Nat),(k+l.length≤1000)→(-(B*k)≤n∧n≤B*k)→(∀a∈l,-B≤f a∧f a≤B)→l.foldl (fun n a=>wr (n+f a)) n=n+(l.map f).sum
 |[],n,k,_,_,_=>by simp
 |a::l,n,k,hk,hn,hl=>by
  have ha:=hl a (by simp);have hk':k+1+l.length≤1000:=by simp at hk;omega
  have e1:B*((k+1:Nat):Int)=B*k+B:=by rw[zwu,zw4];simp
  have e2:B*((k+1:Nat):Int)≤B*1000:=zwE (by omega) hB;have w:wr (n+f a)=n+f a:=ze (by omega) (by omega);simp only[zwv,w,zu2,zwm];rw[zg2 f B hB hs l (n+f a) (k+1) hk' (by rw[e1];omega) (fun b hb=>hl b (by simp[hb]))];omega
theorem zoa{l:List Wa}(hl:l.length≤900)(hm:∀w∈l,-200000000000≤w.m∧w.m≤200000000000):J7 l=(l.map (·.m)).sum:=by unfold J7;have:=zg2 (fun w:Wa=>w.m) 200000000000 (by omega) (by omega) l 0 0 (by omega) (by omega) hm;rw[this,zwz]
theorem zrv{l:List Bu}{s:List Int}(h1:s.length=l.length)(h2:∀r∈s,zn r=true)(h3:∀b∈l,za b.n=true):jS l s=if za (jg l s)=true then(jg l s,0) else(0,6):=by unfold jS;rw[zuQ (by simpa using h1),zuO (zd0 l s fun k a b=>⟨h2 _ (zvk b),h3 _ (zvk a)⟩)]
theorem zsM{l:List Wa}{s t:List Int}(h1:s.length=l.length)(h2:t.length=l.length)(h3:∀r∈s,zn r=true)(h4:∀r∈t,zn r=true)(h5:∀w∈l,za w.o=true∧za w.z=true):JP l s t=if za (yy l t)=true∧za (yw l s t)=true then(yy l t,yw l s t,0) else(0,0,6):=by unfold JP;rw[zuQ (by simp[h1,h2]),zuO];intro k a b c;exact⟨h3 _ (zvk b),h4 _ (zvk c),h5 _ (zvk a)⟩
theorem QM{n r v:Int}(h:zk n r=(v,0)):0≤n∧n≤100000000000∧zn r=true∧v=zd n r∧za v=true∧0≤v:=by
 unfold zk at h;split at h
 ·rename_i hh;simp at h;have h2:0≤r∧r≤1000000:=by simpa[zn] using hh.2.2
  have h1:=Qe (n:=n) (r:=r) ⟨by omega,hh.2.1⟩ h2;have h3:=zh6 (n:=n) (r:=r) hh.1;exact⟨hh.1,hh.2.1,hh.2.2,h.symm,by rw[←h];simp[za];omega,by rw[←h];exact h3⟩
 ·simp at h
theorem zg4(n r:Int):j8 n r=if(zk n r).2=0 then(-(zk n r).1,0) else(0,(zk n r).2):=by unfold j8 zk;split<;>simp
theorem zel{l:List Vi}(hI:LosI l)(hs:Sor ltV l){book perm moved cap life year r:Int}{cur:Res}{left:List Vi}(h:zcu l book perm moved cap life year r=(0,cur,left)):za cur.tax=true:=by
 have h1:=zj2 hI hs book perm moved cap life year r;have h2:Zz l book perm moved cap life year r=(0,cur,left):=by rw[h1.2 (by rw[h]),h]
 exact(zfs hI book perm moved cap life year r h2).2
def zkB(t:List Rw)(inp:Inp)(op:Bal)(l:List Vi)(reg:List Bu):Int×Pro×List Vi:=
 if¬zm inp.p=true∨¬zn inp.judge=true∨¬za inp.up=true then(1,zr,l)
 else match jb t inp.j (inp.p.tdiv 4) inp.p with
  |none=>(7,zr,l)
  |some r=>
   if(yZ t inp.j inp.p).2≠0 then((yZ t inp.j inp.p).2,zr,l)
   else match zO t inp.j inp.p (reg.map (·.y)) with
    |none=>(7,zr,l)
    |some rates=>
     let next:=(yZ t inp.j inp.p).1
     let rows:=zS op.b reg;let tx:=zcu l inp.book inp.perm ((rows.map (·.m)).sum) inp.cap inp.life (inp.p.tdiv 4) r
     if tx.1≠0 then(tx.1,zr,l)
     else if¬za (jg reg rates)=true then(6,zr,l)
     else
      let lf:=zx tx.2.2
      if(zk lf next).2≠0 then((zk lf next).2,zr,l)
      else if(zk (zk lf next).1 inp.judge).2≠0 then((zk (zk lf next).1 inp.judge).2,zr,l)
      else match zO t inp.j inp.p (rows.map (·.y)) with
       |none=>(7,zr,l)
       |some now=>
        let loss:=(zk lf next).1;let al:=(zk (zk lf next).1 inp.judge).1;let tm:=yy rows now;let tr:=yw rows (yA op rows now) now
        if¬za tm=true∨¬za tr=true then(6,zr,l)
        else
         let lr:=zd op.left op.next-zd op.left next
         let lm:=op.loss-loss-lr;let am:=op.allow- -al;let de:=tm+tr+lm+lr+am;let tot:=tx.2.1.tax+de+inp.up
         if[lm,lr,am,tx.2.1.tax+inp.up,jg reg rates-op.temp,loss-op.loss,-al-op.allow,de,tot].all za then(0,⟨inp,r,op,⟨inp.p,reg,rates,next,lf,jg reg rates,loss,-al⟩,tx.2.1,rows,now,tm,tr,lm,lr,am,de,tot⟩,tx.2.2) else(6,zr,l)
theorem zhJ(t:List Rw)(inp:Inp)(op:Bal)(l:List Vi)(reg:List Bu):YJ t inp op l reg=zkB t inp op l reg:=by
 unfold YJ zkB;by_cases c1:¬zm inp.p=true∨¬zn inp.judge=true∨¬za inp.up=true
 ·rw[zuO c1,zuO c1]
 rw[zuQ c1,zuQ c1];dsimp only;cases jb t inp.j (inp.p.tdiv 4) inp.p with
 |none=>rfl
 |some r=>
 dsimp only;split
 rotate_left
 ·rename_i a e hne heq;have:(yZ t inp.j inp.p).2≠0:=fun h=>hne (by rw[←h,heq]);rw[zuO this,heq]
 rename_i next heq
 rw[heq];simp only[ne_eq,not_true_eq_false,if_false];cases zO t inp.j inp.p (reg.map (·.y)) with
 |none=>rfl
 |some rates=>
 dsimp only;split
 rotate_left
 ·rename_i e a b hne heq;rw[heq];have:e≠0:=fun h=>hne h;rw[zuO this]
 rename_i cur left heq;rw[heq];simp only[ne_eq,not_true_eq_false,if_false];by_cases h1:¬za (jg reg rates)=true
 ·rw[zuO h1,zuO h1]
 rw[zuQ h1,zuQ h1];split
 rotate_left
 ·rename_i a e hne heq;rw[heq];have:e≠0:=fun h=>hne h;rw[zuO this]
 rename_i loss heq;rw[heq];simp only[ne_eq,not_true_eq_false,if_false];split
 rotate_left
 ·rename_i a e hne heq;rw[heq];have:e≠0:=fun h=>hne h;rw[zuO this]
 rename_i al heq;rw[heq];simp only[ne_eq,not_true_eq_false,if_false];cases zO t inp.j inp.p (List.map (fun x=>x.y) (zS op.b reg))<;>rfl
set_option maxHeartbeats 2000000 in
theorem zqM{t:List Rw}(ht:zfB t)(inp:Inp){op:Bal}(hop:BalM op){l:List Vi}(hI:LosI l)(hs:Sor ltV l){reg:List Bu}(hr:BuV reg):
 (jw t inp op l reg).1=(YJ t inp op l reg).1∧((YJ t inp op l reg).1=0→jw t inp op l reg=YJ t inp op l reg):=by
 have fe:=zjg hop.b hr;have fl:=zaM op.b reg;have fm:=zdw hop.b hr;have me:=zoa fl (fun w hw=>⟨(fm w hw).2.2.1,(fm w hw).2.2.2⟩);rw[zhJ];unfold jw zkB;rw[fe];by_cases c1:¬zm inp.p=true∨¬zn inp.judge=true∨¬za inp.up=true
 ·rw[zuO c1,zuO c1];exact⟨rfl,fun h=>by cases h⟩
 rw[zuQ c1,zuQ c1];simp only[not_or,Decidable.not_not] at c1;obtain⟨cp,cj,cu⟩:=c1;dsimp only;cases hr1:jb t inp.j (inp.p.tdiv 4) inp.p with
 |none=>exact⟨rfl,fun h=>by cases h⟩
 |some r=>
 dsimp only;have hrr:=zd8 ht hr1;have hn:yZ t inp.j inp.p=((yZ t inp.j inp.p).1,0)∨yZ t inp.j inp.p=(0,7):=by
  unfold yZ;rw[zuO cp];split
  ·exact .inl rfl
  ·exact .inr rfl
 rcases hn with hn|hn
 rotate_left
 ·rw[hn];exact⟨rfl,fun h=>by cases h⟩
 rw[hn];generalize(yZ t inp.j inp.p).1=next at *
 simp only[ne_eq,not_true_eq_false,if_false];cases hrs:zO t inp.j inp.p (reg.map (·.y)) with
 |none=>exact⟨rfl,fun h=>by cases h⟩
 |some rates=>
 obtain⟨rl,rr⟩:=Ym ht hrs;dsimp only;rw[me];have te:=zj2 hI hs inp.book inp.perm ((zS op.b reg).map (·.m)).sum inp.cap inp.life (inp.p.tdiv 4) r;have tm:=fun cur left=>zel hI hs (book:=inp.book) (perm:=inp.perm) (moved:=((zS op.b reg).map (·.m)).sum) (cap:=inp.cap) (life:=inp.life) (year:=inp.p.tdiv 4) (r:=r) (cur:=cur) (left:=left);generalize zcu l inp.book inp.perm ((zS op.b reg).map (·.m)).sum inp.cap inp.life (inp.p.tdiv 4) r=TD at *;generalize Zz l inp.book inp.perm ((zS op.b reg).map (·.m)).sum inp.cap inp.life (inp.p.tdiv 4) r=TP at *;obtain⟨te1,te2⟩:=te;by_cases h0:TD.1=0
 rotate_left
 ·rw[zuO (by rw[te1];exact h0),zuO h0];exact⟨te1,fun h=>absurd h h0⟩
 obtain rfl:=te2 h0;obtain⟨a,cur,left⟩:=TP;simp only at h0;subst h0;have tmm:=tm cur left rfl;simp only[ne_eq,not_true_eq_false,if_false];rw[zrv (by simpa using rl) rr hr.m];by_cases h1:za (jg reg rates)=true
 rotate_left
 ·rw[zuQ h1,zuO (show¬((0,6):Int×Int).2=0 by decide),zuO h1];exact⟨rfl,fun h=>by cases h⟩
 simp only[h1,if_true,ne_eq,not_true_eq_false,if_false];generalize htd:jg reg rates=temp at *;by_cases he:(zk (zx left) next).2=0
 rotate_left
 ·rw[zuO he,zuO he];exact⟨rfl,fun h=>absurd h he⟩
 simp only[he,not_true_eq_false,if_false];have hsh:zk (zx left) next=((zk (zx left) next).1,0):=by rw[←he]
 generalize(zk (zx left) next).1=loss at *;rw[zg4];by_cases he2:(zk loss inp.judge).2=0
 rotate_left
 ·rw[zuQ he2,zuO (show¬((0,(zk loss inp.judge).2):Int×Int).2=0 from he2),zuO he2];exact⟨rfl,fun h=>absurd h he2⟩
 simp only[he2,if_true,not_true_eq_false,if_false];have hsh2:zk loss inp.judge=((zk loss inp.judge).1,0):=by rw[←he2]
 generalize(zk loss inp.judge).1=al at *;cases hnw:zO t inp.j inp.p ((zS op.b reg).map (·.y)) with
 |none=>exact⟨rfl,fun h=>by cases h⟩
 |some now=>
 obtain⟨nl,nr⟩:=Ym ht hnw;dsimp only;obtain⟨ol,orr⟩:=zd2 hop.r (l:=zS op.b reg) (s:=now) (by simpa using nl.symm) nr;rw[zsM ol (by simpa using nl) orr nr (fun w hw=>⟨(fm w hw).1,(fm w hw).2.1⟩)];generalize yy (zS op.b reg) now=mv at *;generalize yw (zS op.b reg) (yA op (zS op.b reg) now) now=rt at *;by_cases h2:za mv=true∧za rt=true
 rotate_left
 ·rw[zuQ h2,zuO (show¬((0,0,6):Int×Int×Int).2.2=0 by decide),zuO (by rw[zww] at h2;exact h2)];exact⟨rfl,fun h=>by cases h⟩
 simp only[h2.1,h2.2,and_self,if_true,not_true_eq_false,if_false,or_self];obtain⟨_,_,_,_,lm1,_⟩:=QM hsh;obtain⟨_,_,_,_,lm2,_⟩:=QM hsh2;obtain⟨m1,m2⟩:=h2;have b1:=zB op.left op.next
 have b2:=zB op.left next
 have q1:=hop.temp;have q2:=hop.loss;have q3:=hop.allow;simp only[za,zuW] at lm1 lm2 m1 m2 q1 q2 q3 tmm h1 cu;have w1:wr (zd op.left op.next-zd op.left next)=zd op.left op.next-zd op.left next:=ze (by omega) (by omega)
 have w2:wr (op.loss-loss)=op.loss-loss:=ze (by omega) (by omega);have w3:wr (op.loss-loss-(zd op.left op.next-zd op.left next))=op.loss-loss-(zd op.left op.next-zd op.left next):=ze (by omega) (by omega);have w4:wr (op.allow- -al)=op.allow- -al:=ze (by omega) (by omega);have w5:wr (mv+rt)=mv+rt:=ze (by omega) (by omega);have w6:wr (mv+rt+(op.loss-loss-(zd op.left op.next-zd op.left next)))=mv+rt+(op.loss-loss-(zd op.left op.next-zd op.left next)):=ze (by omega) (by omega);have w7:wr (mv+rt+(op.loss-loss-(zd op.left op.next-zd op.left next))+(zd op.left op.next-zd op.left next))=mv+rt+(op.loss-loss-(zd op.left op.next-zd op.left next))+(zd op.left op.next-zd op.left next):=ze (by omega) (by omega);have w8:wr (mv+rt+(op.loss-loss-(zd op.left op.next-zd op.left next))+(zd op.left op.next-zd op.left next)+(op.allow- -al))=mv+rt+(op.loss-loss-(zd op.left op.next-zd op.left next))+(zd op.left op.next-zd op.left next)+(op.allow- -al):=ze (by omega) (by omega);have w9:wr (cur.tax+(mv+rt+(op.loss-loss-(zd op.left op.next-zd op.left next))+(zd op.left op.next-zd op.left next)+(op.allow- -al)))=cur.tax+(mv+rt+(op.loss-loss-(zd op.left op.next-zd op.left next))+(zd op.left op.next-zd op.left next)+(op.allow- -al)):=ze (by omega) (by omega);have w10:wr (cur.tax+(mv+rt+(op.loss-loss-(zd op.left op.next-zd op.left next))+(zd op.left op.next-zd op.left next)+(op.allow- -al))+inp.up)=cur.tax+(mv+rt+(op.loss-loss-(zd op.left op.next-zd op.left next))+(zd op.left op.next-zd op.left next)+(op.allow- -al))+inp.up:=ze (by omega) (by omega);have w11:wr (cur.tax+inp.up)=cur.tax+inp.up:=ze (by omega) (by omega);have w12:wr (temp-op.temp)=temp-op.temp:=ze (by omega) (by omega);have w13:wr (loss-op.loss)=loss-op.loss:=ze (by omega) (by omega);have w14:wr (-al-op.allow)= -al-op.allow:=ze (by omega) (by omega);simp only[Jn,yV,w1,w2,w3,w4,w5,w6,w7,w8,w9,w10,w11,w12,w13,w14];split
 ·exact⟨rfl,fun _=>rfl⟩
 ·exact⟨rfl,fun h=>by cases h⟩
structure ProM(p:Pro):Prop where
 tax:za p.cur.tax=true
 up:za p.inp.up=true
 tu:za (p.cur.tax+p.inp.up)=true
 de:za p.deferred=true
 dt:za (p.cl.temp-p.op.temp)=true
 dl:za (p.cl.loss-p.op.loss)=true
 da:za (p.cl.allow-p.op.allow)=true
 tr:za p.tr=true
 lr:za p.lr=true
 am:za p.am=true
 tot:za p.total=true
 un: -4000000000000≤p.cur.used-p.cur.new∧p.cur.used-p.cur.new≤4000000000000
 rows:p.rows.length≤900
 cl:BalM p.cl
theorem zhE{p:Pro}(h:ProM p):qa p=yC p:=by
 obtain⟨h1,h2,h3,h4,h5,h6,h7,_,_,_,_,_,_,_⟩:=h;simp only[za,zuW] at h1 h2 h3 h4 h5 h6 h7;have w1:wr (-p.cur.tax)= -p.cur.tax:=ze (by omega) (by omega);have w2:wr (-p.cur.tax-p.inp.up)= -p.cur.tax-p.inp.up:=ze (by omega) (by omega);have w3:wr (p.cl.temp-p.op.temp)=p.cl.temp-p.op.temp:=ze (by omega) (by omega);have w4:wr (p.cl.loss-p.op.loss)=p.cl.loss-p.op.loss:=ze (by omega) (by omega);have w5:wr (p.cl.allow-p.op.allow)=p.cl.allow-p.op.allow:=ze (by omega) (by omega);have hf:zaJ (Y7 p)=true:=by simp[zaJ,Y7,w1,w2,w3,w4,w5,za];omega
 unfold qa;rw[zuO hf];unfold yC Y7;rw[w1,w2,w3,w4,w5]
theorem znN{p:Pro}(h:ProM p):qm p=Zp p:=by
 obtain⟨_,h2,_,_,_,_,_,h8,h9,h10,h11,h12,h13,_⟩:=h;simp only[za,zuW] at h2 h8 h9 h10 h11;have w1:wr (p.cur.used-p.cur.new)=p.cur.used-p.cur.new:=ze (by omega) (by omega);have w2:wr (p.tr+p.lr)=p.tr+p.lr:=ze (by omega) (by omega);have b1:=zB p.inp.book p.rate;have b2:=zB p.inp.perm p.rate;have b3:=zB (p.cur.used-p.cur.new) p.cl.next
 have b4:=zB (p.cur.used-p.cur.new) p.rate;have b5:=zB p.cur.expired p.cl.next
 have b6:=zc9 p.rate p.rows p.now;have ha:Y5 p=[⟨1,zd p.inp.book p.rate⟩,⟨2,zd p.inp.perm p.rate⟩,⟨3,jC p.rate p.rows p.now+(zd (p.cur.used-p.cur.new) p.cl.next-zd (p.cur.used-p.cur.new) p.rate)⟩,⟨4,p.tr+p.lr⟩,⟨5,p.am⟩,⟨6,zd p.cur.expired p.cl.next⟩,⟨7,p.inp.up⟩]:=by unfold Y5 zgF;rw[w1,w2,Int.add_comm (_-_) (jC _ _ _)]
 unfold qm Zp;rw[ha];dsimp only;have hD: -8000000000000000≤jC p.rate p.rows p.now+(zd (p.cur.used-p.cur.new) p.cl.next-zd (p.cur.used-p.cur.new) p.rate)∧jC p.rate p.rows p.now+(zd (p.cur.used-p.cur.new) p.cl.next-zd (p.cur.used-p.cur.new) p.rate)≤8000000000000000:=by have r1:(8000000000002*(p.rows.length:Int))≤8000000000002*900:=zwE (by omega) (by omega);omega
 generalize jC p.rate p.rows p.now+(zd (p.cur.used-p.cur.new) p.cl.next-zd (p.cur.used-p.cur.new) p.rate)=D at *;have e:zex [⟨1,zd p.inp.book p.rate⟩,⟨2,zd p.inp.perm p.rate⟩,⟨3,D⟩,⟨4,p.tr+p.lr⟩,⟨5,p.am⟩,⟨6,zd p.cur.expired p.cl.next⟩,⟨7,p.inp.up⟩]=zd p.inp.book p.rate+(zd p.inp.perm p.rate+(D+(p.tr+p.lr+(p.am+(zd p.cur.expired p.cl.next+p.inp.up))))):=by unfold zex;rw[zg2 (fun x:It=>x.n) 8000000000000000 (by omega) (by omega) _ 0 0 (by simp) (by omega) (by simp;omega)];simp
 rw[e];have e2:([⟨1,zd p.inp.book p.rate⟩,⟨2,zd p.inp.perm p.rate⟩,⟨3,D⟩,⟨4,p.tr+p.lr⟩,⟨5,p.am⟩,⟨6,zd p.cur.expired p.cl.next⟩,⟨7,p.inp.up⟩].map fun x:It=>x.n).sum=zd p.inp.book p.rate+(zd p.inp.perm p.rate+(D+(p.tr+p.lr+(p.am+(zd p.cur.expired p.cl.next+p.inp.up))))):=by simp
 rw[e2,show wr (p.total-_)=_ from ze (by omega) (by omega)]
theorem ZB{l:List Li}(h:yh l=true):l.length≤20∧yF 0 l=true∧(l.map (·.n)).sum=0:=by simp[yh] at h;exact⟨h.1.1,h.1.2,h.2⟩
theorem QL:∀{l:List Li} {a:Int},yF a l=true→∀x∈l,a<x.a∧x.a≤7
 |[],a,_,x,hx=>by cases hx
 |y::l,a,h,x,hx=>by
  simp[yF] at h;rcases zuX.1 hx with rfl|hx
  ·exact h.1.1
  ·have:=QL h.2 x hx;omega
theorem zbg(a:Int):yK [] a=0:=rfl
theorem YP(x:Li)(l:List Li)(a:Int):yK (x::l) a=if x.a=a then x.n+yK l a else yK l a:=by
 unfold yK;by_cases h:x.a=a
 ·simp[h]
 ·simp[h]
theorem zek(l m:List Li)(a:Int):yK (l++m) a=yK l a+yK m a:=by
 induction l with
 |nil=>simp[zbg]
 |cons x l ih=>
  rw[zv5,YP,YP,ih];split<;>omega
theorem zbT:∀{l:List Li} {a:Int},(∀x∈l,x.a≠a)→yK l a=0
 |[],_,_=>rfl
 |x::l,a,h=>by rw[YP,zuQ (h x (by simp)),zbT fun y hy=>h y (by simp[hy])]
theorem Je:∀{l:List Li} {a:Int},yF a l=true→∀x∈l,yK l x.a=x.n
 |[],a,_,x,hx=>by cases hx
 |y::l,a,h,x,hx=>by
  simp[yF] at h;have hg:=QL h.2;rw[YP];rcases zuX.1 hx with rfl|hx
  ·rw[zuO rfl,zbT fun z hz e=>by have:=hg z hz;omega];omega
  ·have:=hg x hx;rw[zuQ (by omega)];exact Je h.2 x hx
theorem zoR(a:Int):∀(l:List Li),(∀x∈l,za x.n=true)→-(100000000000*(l.length:Int))≤yK l a∧yK l a≤100000000000*(l.length:Int):=zgT a
structure JoV(js:List Jo):Prop where
 len:js.length≤200
 seq:∀k (h:k<js.length),js[k].seq=(k:Int)+1
 chk:∀j∈js,yh j.l=true
 kd:∀j∈js,(j.kind=1∧j.of=0)∨j.kind=2
 tr:∀id,(jB (ofJ id 399 js)).all (fun x=>za x.n)=true
theorem JoV.nil:JoV []:=⟨by simp,(fun k h=>by simp at h),(fun j h=>by cases h),(fun j h=>by cases h),(fun id=>by simp[jB,ofJ,zbg])⟩
theorem zqq{l:List Li}(h:yh l=true):zaJ l=true:=by obtain⟨h1,h2,_⟩:=ZB h;have:=jP l 0 h2;simp[zaJ];exact⟨by omega,this⟩
theorem zqW{l:List Li}(h:yh l=true)(a:Int):zod l a=yK l a:=by unfold zod;rw[zuO (zqq h)]
theorem zhZ(j:Jo)(s:List Jo)(id:ByteArray)(upto:Int):ofJ id upto (j::s)=if j.id==id&&decide (j.p≤upto) then j.l++ofJ id upto s else ofJ id upto s:=by unfold ofJ;rw[zwq];split<;>simp
theorem zq0(s r:List Jo)(id:ByteArray)(upto:Int):ofJ id upto (s++r)=ofJ id upto s++ofJ id upto r:=by unfold ofJ;rw[zwB,zvw]
theorem zcV(id:ByteArray)(a upto:Int):∀(s:List Jo) (n:Int) (k:Nat),(∀j∈s,yh j.l=true)→k+s.length≤200→(-(2000000000000*(k:Int))≤n∧n≤2000000000000*(k:Int))→s.foldl (zlm id a upto) n=n+yK (ofJ id upto s) a
 |[],n,k,_,_,_=>by simp[ofJ,zbg]
 |j::s,n,k,hc,hk,hn=>by
  simp only[zvr] at hk;have hj:=hc j (by simp);rw[zwv,zhZ];have hb:=zoR a j.l (jP j.l 0 (ZB hj).2.1);have hl:=(ZB hj).1;have e:zlm id a upto n j=if j.id==id&&decide (j.p≤upto) then n+yK j.l a else n:=by
   unfold zlm;split
   ·rw[zqW hj];exact ze (by omega) (by omega)
   ·rfl
  rw[e];split
  ·rw[zcV id a upto s _ (k+1) (fun q hq=>hc q (by simp[hq])) (by omega) (by omega),zek];omega
  ·exact zcV id a upto s n (k+1) (fun q hq=>hc q (by simp[hq])) (by omega) (by omega)
theorem zsE{js:List Jo}(h:JoV js)(id:ByteArray)(a upto:Int):zcU js id a upto=yK (ofJ id upto js) a:=by unfold zcU;rw[zcV id a upto js 0 0 h.chk (by have:=h.len;omega) (by omega),zwz]
theorem zhm:∀{js:List Jo} (n:Nat),(∀k (h:k<js.length),js[k].seq=(k:Int)+1+n)→∀of:Int,js.find? (zdF of)=if 1+(n:Int)≤of then js[(of-1-n).toNat]? else none
 |[],n,_,of=>by simp
 |j::s,n,h,of=>by
  have h0:=h 0 (by simp);simp at h0;rw[zxE];by_cases e:j.seq=of
  ·have:zdF of j=true:=by simp[zdF,e]
   rw[this];simp only;rw[zuO (by omega),show(of-1-(n:Int)).toNat=0 by omega];rfl
  ·have:zdF of j=false:=by simp[zdF,e]
   rw[this];simp only;rw[zhm (n+1) (fun k hk=>by have:=h (k+1) (by simp;omega);simp at this;omega) of];by_cases h1:1+(n:Int)≤of
   ·rw[zuO (by omega),zuO h1,show(of-1-(n:Int)).toNat=(of-1-((n+1:Nat):Int)).toNat+1 by omega];rfl
   ·rw[zuQ (by omega),zuQ h1]
theorem zoA{l:List Li}(h:∀x∈l,za x.n=true):yf l=yO l:=by unfold yf yO;refine zvo fun x hx=> ?_;have:=h x hx;simp[za] at this;rw[show wr (-x.n)= -x.n from ze (by omega) (by omega)]
theorem zfm:∀(a b:List Li),zeb a b=zec a b
 |[],[]=>rfl
 |[],_::_=>rfl
 |_::_,[]=>rfl
 |x::a,y::b=>by have ih:=zfm a b;unfold zeb zec at ih⊢;rw[Q4,ih,zu2,zu2,List.cons_beq_cons];rfl
theorem zbI{l:List Li}:(jB l).all (fun x=>za x.n)=true↔∀a:Int,1≤a→a≤7→za (yK l a)=true:=by
 unfold jB;rw[zu4];constructor
 ·intro h a h1 h2;by_cases h0:yK l a=0
  ·rw[h0];rfl
  ·have e:((a-1).toNat:Int)+1=a:=by omega
   have:=h ⟨((a-1).toNat:Int)+1,yK l (((a-1).toNat:Int)+1)⟩ (zvx.2 ⟨zvV.2 ⟨(a-1).toNat,zwl.2 (by omega),rfl⟩,by rw[e];simpa using h0⟩);rw[e] at this;exact this
 ·intro h x hx;obtain⟨h1,_⟩:=zvx.1 hx;obtain⟨k,hk,rfl⟩:=zvV.1 h1;have:=zwl.1 hk;exact h _ (by omega) (by omega)
theorem zq2{js:List Jo}(h:JoV js){id:ByteArray}{l:List Li}(hc:yh l=true):Zl js id l=(jB (ofJ id 399 js++l)).all fun x=>za x.n:=by
 obtain⟨h1,h2,_⟩:=ZB hc;have hm:=jP l 0 h2;have hb:=fun a=>zsE h id a 399;have ht:=zbI.1 (h.tr id);rw[zxC,zbI];unfold Zl;rw[zu4];have w:∀x∈l,wr (zcU js id x.a 399+x.n)=yK (ofJ id 399 js) x.a+x.n:=fun x hx=>by rw[hb];have:=QL h2 x hx;have a1:=ht x.a (by omega) (by omega);have a2:=hm x hx;simp[za] at a1 a2;exact ze (by omega) (by omega)
 constructor
 ·intro hx a b1 b2;rw[zek];by_cases he:∃x∈l,x.a=a
  ·obtain⟨x,hxl,rfl⟩:=he;rw[Je h2 x hxl,←w x hxl];exact hx x hxl
  ·rw[zbT fun x hx e=>he ⟨x,hx,e⟩,zxH];exact ht a b1 b2
 ·intro hx x hxl;rw[w x hxl];have:=QL h2 x hxl;have:=hx x.a (by omega) (by omega)
  rwa [zek,Je h2 x hxl] at this
theorem zrc{js:List Jo}(h:JoV js){of:Int}(ho:1≤of):js.any (zim of)=js.any fun k=>k.of==of:=by
 rw[zxC,zwF,zwF];constructor
 ·rintro⟨j,hj,h1⟩;simp[zim] at h1;exact⟨j,hj,by simpa using h1.2⟩
 ·rintro⟨j,hj,h1⟩;simp at h1;refine⟨j,hj,?_⟩;rcases h.kd j hj with⟨_,h2⟩|h2
  ·omega
  ·simp[zim,h2,h1]
def noD(s:List Jo)(id:ByteArray)(p of:Int):Int:=match s[(of-1).toNat]? with
 |some j=>if of<1∨¬(j.id==id&&j.p==p&&j.kind==1)=true then 3 else if s.any fun k=>k.of==of then 4 else 0
 |none=>3
theorem zd5(s:List Jo)(id:ByteArray)(p kind of:Int)(l:List Li):jq s id p kind of l=if id.size=0∨¬zm p=true∨(kind≠1∧kind≠2)∨(kind=1∧of≠0) then(0,1,s)
 else if(if kind=2 then noD s id p of else 0)≠0 then(0,(if kind=2 then noD s id p of else 0),s)
 else if¬yh l=true∨(kind=2∧¬zec l (yO ((s[(of-1).toNat]?.map (·.l)).getD []))=true) then(0,2,s)
 else if 200≤s.length then(0,5,s)
 else if¬(jB (ofJ id 399 s++l)).all (fun x=>za x.n)=true then(0,6,s)
 else((s.length:Int)+1,0,s++[⟨(s.length:Int)+1,id,p,kind,of,l⟩]):=rfl
theorem zkR{js:List Jo}(h:JoV js)(id:ByteArray)(p kind of:Int)(l:List Li):jf js id p kind of l=jq js id p kind of l:=by
 rw[zd5];unfold jf;by_cases c1:id.size=0∨¬zm p=true∨(kind≠1∧kind≠2)∨(kind=1∧of≠0)
 ·rw[zuO c1,zuO c1]
 rw[zuQ c1,zuQ c1];simp only[not_or,Decidable.not_not,zww] at c1;obtain⟨_,cp,ck,_⟩:=c1;have tail:∀l:List Li,yh l=true→(if 200≤js.length then((0:Int),(5:Int),js) else if¬Zl js id l=true then(0,6,js) else((js.length:Int)+1,0,js++[⟨(js.length:Int)+1,id,p,kind,of,l⟩]))=if 200≤js.length then(0,5,js) else if¬(jB (ofJ id 399 js++l)).all (fun x=>za x.n)=true then(0,6,js) else((js.length:Int)+1,0,js++[⟨(js.length:Int)+1,id,p,kind,of,l⟩]):=fun l hc=>by rw[zq2 h hc]
 unfold zgo;by_cases k2:kind=2
 ·simp only[zuO k2];have hf:=zhm (js:=js) 0 (fun k hk=>by have:=h.seq k hk;omega) of;simp only[Int.natCast_zero,zxH,Int.sub_zero] at hf;have key:(JD js id p of).2=noD js id p of∧((JD js id p of).2=0→∃j,js[(of-1).toNat]? =some j∧(JD js id p of).1=j):=by
   unfold JD noD;rw[hf];by_cases ho:1≤of
   ·rw[zuO ho];cases hj:js[(of-1).toNat]? with
    |none=>exact⟨rfl,fun h=>by cases h⟩
    |some j=>
     have hm:j∈js:=zvE hj;have hk:=h.kd j hm;have e:(¬(j.id==id)=true∨j.p≠p∨j.kind=2)↔(of<1∨¬(j.id==id&&j.p==p&&j.kind==1)=true):=by
      simp only[zuP,zwf,zww];constructor
      ·rintro(h1|h1|h1)
       ·exact .inr (.inl (.inl h1))
       ·exact .inr (.inl (.inr h1))
       ·exact .inr (.inr (by omega))
      ·rintro(h1|(h1|h1)|h1)
       ·omega
       ·exact .inl h1
       ·exact .inr (.inl h1)
       ·exact .inr (.inr (by omega))
     dsimp only;by_cases hc:¬(j.id==id)=true∨j.p≠p∨j.kind=2
     ·rw[zuO hc,zuO (e.1 hc)];exact⟨rfl,fun h=>by cases h⟩
     ·rw[zuQ hc,zuQ (fun h=>hc (e.2 h)),zrc h ho];split
      ·exact⟨rfl,fun h=>by cases h⟩
      ·exact⟨rfl,fun _=>⟨j,rfl,rfl⟩⟩
   ·rw[zuQ ho];refine⟨?_,fun h=>by cases h⟩;cases js[(of-1).toNat]? with
    |none=>rfl
    |some j=>dsimp only;rw[zuO (.inl (by omega))]
  rw[←key.1];by_cases hn:(JD js id p of).2=0
  ·obtain⟨j,hj,he⟩:=key.2 hn;have hm:j∈js:=zvE hj;simp only[hn,ne_eq,not_true_eq_false,if_false,hj,he,zvb,zwH];by_cases hc:yh l=true
   ·rw[zfm,zoA (jP j.l 0 (ZB (h.chk j hm)).2.1)];simp only[hc,not_true_eq_false,if_false,false_or,k2,true_and];by_cases hs:zec l (yO j.l)=true
    ·simp only[hs,not_true_eq_false,if_false];subst k2;exact tail l hc
    ·simp only[hs,not_false_eq_true,if_true];simp
   ·simp[hc]
  ·simp only[hn,ne_eq,not_false_eq_true,if_true]
 ·simp only[zuQ k2,ne_eq,not_true_eq_false,if_false];by_cases hc:yh l=true
  ·simp only[hc,not_true_eq_false,if_false,false_or,k2,false_and];exact tail l hc
  ·simp[hc]
theorem zop{js:List Jo}(h:JoV js){id:ByteArray}{p kind of:Int}{l:List Li}{seq:Int}{js':List Jo}(e:jq js id p kind of l=(seq,0,js')):JoV js'∧js'=js++[⟨seq,id,p,kind,of,l⟩]∧seq=(js.length:Int)+1∧yh l=true:=by
 rw[zd5] at e;split at e
 ·simp only[zuH] at e;omega
 rename_i c1;simp only[not_or,Decidable.not_not,zww] at c1;by_cases hn:(if kind=2 then noD js id p of else 0)≠0
 ·rw[zuO hn] at e;simp only[zuH] at e;exact absurd e.2.1 hn
 rw[zuQ hn] at e;split at e
 ·simp only[zuH] at e;omega
 rename_i c2;split at e
 ·simp only[zuH] at e;omega
 rename_i c3;split at e
 ·simp only[zuH] at e;omega
 rename_i c4;simp only[zuH,true_and] at e;obtain⟨rfl,rfl⟩:=e;simp only[not_or,Decidable.not_not] at c2 c4;refine⟨⟨by simp;omega,fun k hk=> ?_,fun j hj=> ?_,fun j hj=> ?_,fun id2=> ?_⟩,rfl,rfl,c2.1⟩
 ·simp only[zuM,zuS] at hk;by_cases hkl:k<js.length
  ·rw[zwD hkl];exact h.seq k hkl
  ·obtain rfl:k=js.length:=by omega
   simp
 ·rcases zuY.1 hj with hj|hj
  ·exact h.chk j hj
  ·rw[zvm] at hj;subst hj;exact c2.1
 ·rcases zuY.1 hj with hj|hj
  ·exact h.kd j hj
  ·rw[zvm] at hj;subst hj;obtain⟨_,_,k1,k2⟩:=c1;show(kind=1∧of=0)∨kind=2;omega
 ·rw[zq0,zhZ];split
  ·rename_i hid;simp at hid;obtain⟨hid,_⟩:=hid;rw[yj,zuW] at hid;subst hid;simpa[ofJ] using c4
  ·have:=h.tr id2;simpa[ofJ] using this
end
end Go.Proofs.YtdmcfjkgopmlgaaGreatDoor.Ev.CA

import Derived.Test.YtdmcfjkgopmlgaaGreatDoorR9
import Derived.Shelf.SlSortCmp.NoneTotal
import Derived.Lib.Index
import Derived.Sort.Walk0
set_option linter.unusedVariables false
set_option linter.unusedSimpArgs false
set_option linter.unusedSectionVars false
namespace Go.Proofs.YtdmcfjkgopmlgaaGreatDoor.Ev
open Go Go.RowKit Go.Shelf Go.Sort
section
variable {α:Type}
theorem jk(lt:α→α→Bool)(b:α):∀l:List α,(ZL lt b l).Perm (b::l)
 |[]=> .refl _
 |x::r=>by
  unfold ZL;split
  ·exact .refl _
  ·exact((jk lt b r).cons x).trans (.swap ..)
theorem zgh(lt:α→α→Bool):∀l:List α,(zt lt l).Perm l
 |[]=> .refl _
 |x::r=>(jk lt x _).trans ((zgh lt r).cons x)
theorem znL{lt:α→α→Bool}(hO:SWO lt)(b:α):∀{l:List α},l.Pairwise (fun x y=>lt y x=false)→(ZL lt b l).Pairwise (fun x y=>lt y x=false)
 |[],_=>List.pairwise_singleton ..
 |x::r,h=>by
  have asy:∀{u v},lt u v=true→lt v u=false:=fun{u v} q=>by
   cases e:lt v u with
   |false=>rfl
   |true=>have:=hO.trans _ _ _ q e;rw[hO.irrefl] at this;cases this
  obtain⟨h1,h2⟩:=zu7.1 h;unfold ZL;split
  ·rename_i hb;refine zu7.2 ⟨fun y hy=> ?_,h⟩;rcases zuX.1 hy with rfl|hy
   ·exact asy hb
   ·cases e:lt y b with
    |false=>rfl
    |true=>have:=hO.trans _ _ _ e hb;rw[h1 y hy] at this;cases this
  ·rename_i hb;refine zu7.2 ⟨fun y hy=> ?_,znL hO b h2⟩;rcases zuX.1 ((jk lt b r).mem_iff.1 hy) with rfl|hy
   ·simpa using hb
   ·exact h1 y hy
theorem zsi{lt:α→α→Bool}(hO:SWO lt):∀l:List α,(zt lt l).Pairwise (fun x y=>lt y x=false)
 |[]=> .nil
 |x::r=>znL hO x (zsi hO r)
theorem zhf{lt:α→α→Bool}:∀{l:List α},jH lt l=true→∀a∈l,∀b∈l,a=b∨lt a b=true∨lt b a=true
 |x::r,h,a,ha,b,hb=>by
  simp only[jH,zuP,zu4,zvJ] at h;rcases zuX.1 ha with e|h1
  ·rw[e];rcases zuX.1 hb with e2|h2
   ·exact .inl e2.symm
   ·exact .inr (h.1 b h2)
  ·rcases zuX.1 hb with e2|h2
   ·rw[e2];exact .inr (h.1 a h1).symm
   ·exact zhf h.2 a h1 b h2
theorem zqB{lt:α→α→Bool}(hO:SWO lt){l l':List α}(hd:jH lt l=true)(hp:l'.Perm l)(hs:l'.Pairwise (fun x y=>lt y x=false)):l'=zt lt l:=by
 refine List.Perm.eq_of_pairwise (le:=fun x y=>lt y x=false) (fun a b ha hb h1 h2=> ?_) hs (zsi hO l) (hp.trans (zgh lt l).symm);rcases zhf hd a (hp.mem_iff.1 ha) b ((zgh lt l).mem_iff.1 hb) with e|e|e
 ·exact e
 ·rw[h2] at e;cases e
 ·rw[h1] at e;cases e
theorem QD{enc:α→List Value}{k:Nat}(hk:∀x,(enc x).length=k):∀(l:List α),(l.flatMap enc).length=l.length*k
 |[]=>by simp
 |x::l=>by rw[zvN,zuM,hk,QD hk l,zvr,zvv,Nat.one_mul,zx1]
variable [Inhabited α]
theorem zhn{enc:α→List Value}{k:Nat}(hk:∀x,(enc x).length=k):∀(l:List α) (t:Nat),t<l.length*k→(l.flatMap enc)[t]! =(enc l[t/k]!)[t%k]!
 |[],t,h=>by simp at h
 |x::l,t,h=>by
  rw[zvr,zvv,Nat.one_mul] at h;by_cases c:t<k
  ·rw[Nat.div_eq_of_lt c,zxZ c,zvN];simp[zwT,List.getElem?_append,hk,c]
  ·obtain⟨s,rfl⟩:∃s,t=s+k:=⟨t-k,by omega⟩
   have hk0:0<k:=by
    rcases Nat.eq_zero_or_pos k with rfl|h0
    ·simp at h
    ·exact h0
   rw[Nat.add_div_right _ hk0,Nat.add_mod_right,zvN];have:=zhn hk l s (by omega);simp only[zwT,List.getElem?_append,hk,zvL] at this⊢;rw[zuQ (by omega),zxM,this]
theorem zdr{enc:α→List Value}{k:Nat}(hk:∀x,(enc x).length=k)(d:Array α):flatK enc k d=(d.toList.flatMap enc).toArray:=by
 have e:(flatK enc k d).size=(d.toList.flatMap enc).toArray.size:=by simp only[size_flatK,zwe,QD hk,zxj]
 refine Array.ext e fun i h1 h2=> ?_;have h3:i<d.size*k:=by rwa [size_flatK] at h1
 have a:=get_flatK enc k d i h3;have b:=zhn hk d.toList i (by simpa using h3);rw[getElem!_pos _ i h1] at a;rw[getElem!_pos _ i (by simpa using h2)] at b;rw[a,List.getElem_toArray,b];congr 2;simp[Array.getElem!_eq_getD,zvF,zwT]
end
theorem zil{P:Program}{w0:Base}{ρ:Nat→Ph}{h:LH}:∀(os:List Obj) {w:World},Rel P w0 ρ h w→Rel P w0 ρ h (grow w os.toArray)
 |[],w,R=>by simpa using R
 |o::os,w,R=>by have:=zil os (R.allocFree o);rw[alloc_eq_grow,grow_grow] at this;simpa using this
theorem zm5{w w':World}(b:BelD true w.heap.size w w'):∃q os',w'=grow (w.drewN q) os':=by
 refine⟨w'.drawn-w.drawn,w'.heap.extract w.heap.size w'.heap.size,?_⟩;have h1:=b.os;have h2:=b.tape;have h3:=b.output;have h4:=b.size;have h5:=b.block;have h6:=b.drawn rfl;cases w;cases w';simp only[grow,World.drewN,World.mk.injEq] at *;refine⟨?_,h2,by omega,h1,h3⟩;refine Array.ext_getElem? fun i=> ?_;rw[Array.getElem?_append];split
 ·rename_i hi;exact h5 i hi
 ·rw[Array.getElem?_extract];split
  ·congr 1;omega
  ·exact Array.getElem?_eq_none (by omega)
theorem zio(z:Nat):∀(n:Nat) (cs:List SV),(YN z n cs).length=n
 |0,_=>rfl
 |n+1,cs=>by rw[YN,zvr,zio z n]
theorem zin(z:Nat):∀(n:Nat) (cs:List SV),(YN z n cs).flatten=cs.take (n*z)
 |0,_=>by simp[YN]
 |n+1,cs=>by rw[YN,zxb,zin z n,zvv,Nat.one_mul,zx1,List.take_add]
theorem       Qn {P : Program} {ρr : Ren} (L : SlLaysF0.n6 P ρr) {f t z cf : Nat} {lt : List SV → List SV → Bool} {okr : List SV → Bool} {D : Nat → Option EF} (hf : ρr.f 6 = f) (hfn : ∃ fn, P.funcs[f]? = some fn ∧ fn.name ≠ "runtime.NumGoroutine" ∧ fn.body.isSome = true) (aE : ∀ w, (isAgg (ρr.t 24)).run P w = .ok true w) (zE : ∀ w, (Go.sizeOf (ρr.t 24)).run P w = .ok z w) (ht : P.cellsOf t = z)
 (hD:∀f e,D f=some e→(∃hs,jv P f hs=some e)∨XOK P (fun _=>True) f e) (eg:∀args w,(callFunc cf args).run P w= .ok (.enter cf args) w) (hz:∀l,okr l=true→l.length=z) (hnl:∀l,okr l=true→∀v∈l,nlS v=true) (hO:SWO fun x y:{l:List SV//okr l=true}=>lt x.1 y.1)
 (hcmp:∀x y,okr x=true→okr y=true→WPc D cf [.agg x,.agg y] [] fun u h'=>∃c,u= .s (.int .i64 c)∧(c<0↔lt x y=true)) (G:Base→Prop):XOK P G f (JA t z cf lt okr):=by
 refine⟨2,0,zca t z cf lt okr,rfl,fun w0 hg args h vs h' ρ w hl hga hm hfl R hwf=>⟨hfn,?_⟩⟩;subst hf;have no:∀(p:Option Addr) (cap:Nat) (v:FV),cv ρ v= .slice p 0 cap→Calls P (ρr.f 6) ([v,.s (.fn cf)].map (cv ρ)).toArray w fun e w'=>∃ρ',e= .returned (cv ρ' (qL []))∧Rel P w0 ρ' h w'∧Ext h.length ρ ρ'∧h.length≤h.length∧wfV ρ' h.length (qL []):=by
  intro p cap v hv;have:=(AnyF.slices_SortFunc_none L p cap (.func (.func cf) #[] #[]) w).mono (R':=fun e w'=>∃ρ',e= .returned (cv ρ' (qL []))∧Rel P w0 ρ' h w'∧Ext h.length ρ ρ'∧h.length≤h.length∧wfV ρ' h.length (qL [])) (fun e w' q=>by
   obtain⟨rfl,rfl⟩:=q;exact⟨ρ,rfl,R,Ext.refl _ _,zuL _,fun v hv=>by cases hv⟩)
  simp only[zu2,zv9,hv];exact this
 unfold zca at hga;split at hga
 ·rename_i v g2;split at hga
  ·rename_i hg2;subst hg2;split at hga
   ·obtain⟨rfl,rfl⟩:=zuZ (zuG hga);exact no none 0 _ rfl
   ·obtain⟨rfl,rfl⟩:=zuZ (zuG hga);exact no _ 0 _ rfl
   ·rename_i i p o n;split at hga
    ·rename_i hn;subst hn;obtain⟨rfl,rfl⟩:=zuZ (zuG hga);exact no _ _ _ rfl
    ·rename_i hn;split at hga
     ·rename_i t' cs hi;split at hga
      ·rename_i hc;obtain⟨rfl,hc2,hc3⟩:=hc;split at hga
       ·rename_i hrd;obtain⟨rfl,rfl⟩:=zuZ (zuG hga);simp only[zuP,zu4] at hrd;obtain⟨hok,hdi⟩:=hrd;have hrl:=zio z n (cs.drop (o*z));have hcat:=zin z n (cs.drop (o*z));generalize YN z n (cs.drop (o*z))=rows at *;obtain⟨l,rfl⟩:∃l:List {l:List SV//okr l=true},l.map (·.1)=rows:=⟨rows.pmap Subtype.mk hok,by simp[List.map_pmap]⟩
        rw[zu9] at hrl
        have inh:Inhabited {l:List SV//okr l=true}:=match l,hrl with
         |a::_,_=>⟨a⟩
         |[],h=>absurd h.symm hn
        obtain⟨b1,b2,b3,b4,b5,b6,b7⟩:=R.obj i _ hi;obtain⟨a1,a2⟩:i<h.length∧o+n≤(ρ i).cap:=hwf (.s (.sl i p o n)) zvT;rw[ht] at b3;have hzz:∀x:{l:List SV//okr l=true},(x.1.map (c0 ρ)).length=z:=fun x=>by rw[zu9];exact hz _ x.2
        have hzl:∀x:{l:List SV//okr l=true},x.1.length=z:=fun x=>hz _ x.2;have hfl2:(l.flatMap fun x=>x.1.map (c0 ρ))=((cs.drop (o*z)).take (n*z)).map (c0 ρ):=by rw[←hcat,List.flatMap_def,List.map_flatten,zwN];rfl
        have hH:HoldsK (fun x:{l:List SV//okr l=true}=>x.1.map (c0 ρ)) z w (ρ i).blk ((ρ i).base+o*z) l.toArray:=by
         intro j hj;have hj2:j<n*z:=by simpa[hrl] using hj
         have hoz:(o+n)*z=o*z+n*z:=zvv ..;have hcap:(o+n)*z≤(ρ i).cap*z:=zvf _ a2;rw[zdr hzz,hfl2,zwd];refine⟨?_,(b4 (o*z+j) (by rw[b3];omega)).2⟩;refine b5 (o*z+j) _ ?_;rw[zvC];have hlt:o*z+j<cs.length:=by omega
         simp[hj2,hlt,zvh,zvH]
        have hex:∀x y:{l:List SV//okr l=true},∃c:Int,(∃h',zy D g2 [.agg x.1,.agg y.1] []=some (.s (.int .i64 c),h'))∧(c<0↔lt x.1 y.1=true):=fun x y=>by obtain⟨u,h',he,c,rfl,hc⟩:=hcmp x.1 y.1 x.2 y.2;exact⟨c,⟨h',he⟩,hc⟩
        have hlt:ltOf (fun x y=>Classical.choose (hex x y))=fun x y:{l:List SV//okr l=true}=>lt x.1 y.1:=by
         funext x y;have:=(Classical.choose_spec (hex x y)).2;unfold ltOf;cases e:lt x.1 y.1 with
         |true=>exact zvZ (this.2 e)
         |false=>exact zv2 fun q=>Bool.false_ne_true (e.symm.trans (this.1 q))
        have hcm:CmpLays P g2 #[] (fun x:{l:List SV//okr l=true}=>x.1.map (c0 ρ)) z (fun x y=>Classical.choose (hex x y)) (ρ i).blk ((ρ i).base+o*z) l.toArray.size w:=by
         intro m os dk _ x y;obtain⟨h',he⟩:=(Classical.choose_spec (hex x y)).1;generalize sortWorldK (fun x:{l:List SV//okr l=true}=>x.1.map (c0 ρ)) z w (ρ i).blk ((ρ i).base+o*z) m dk os=W;have S:Rel P ⟨W,W.heap.size,fun _=>False,true⟩ ρ [] W:=⟨BelD.refl _ _ _,zuL _,fun k hk=>hk.elim,fun i o h=>by simp at h,fun i o h=>by simp at h,fun i j o o' h=>by simp at h⟩
         refine((zcZ (G:=fun _=>True) zjY trivial L.mixed hD) g2 _ [] _ h' ρ W he S (fun u hu=> ?_)).2.mono fun e w' q=> ?_
         ·rcases zuX.1 hu with rfl|hu
          ·exact fun v hv=>J8 (hnl _ x.2 v hv)
          ·rcases zuX.1 hu with rfl|hu
           ·exact fun v hv=>J8 (hnl _ y.2 v hv)
           ·cases hu
         ·obtain⟨ρ',rfl,R',_⟩:=q;exact⟨rfl,zm5 R'.below⟩
        have hsw:SWO (ltOf fun x y=>Classical.choose (hex x y)):=by rw[hlt];exact hO
        have key:=AnyQ.slices_SortFunc L z aE zE (fun x:{l:List SV//okr l=true}=>x.1.map (c0 ρ)) hzz (fun x v hv=>by
         obtain⟨s,hs,rfl⟩:=zvV.1 hv;exact ziV (n:=0) (J8 (hnl _ x.2 s hs))) (fun x y=>Classical.choose (hex x y)) hsw g2 #[] (ρ i).blk ((ρ i).base+o*z) ((ρ i).cap-o) l.toArray w eg hcm hH b2 (by simpa[hrl] using hc3)
        have hadr:cv ρ (.s (.sl i p o n))= .slice (some ⟨(ρ i).blk,(ρ i).base+o*z,none⟩) l.toArray.size ((ρ i).cap-o):=by simp only[cv,c0,adr,b3,zwe,hrl];rw[zuQ (by omega)]
        refine Eq.mp ?_ (key.mono (R':=fun e w'=>∃ρ',e= .returned (cv ρ' (qL []))∧Rel P w0 ρ' (h.set i (.own t' (qr cs (o*z) (zt lt (l.map (·.1))).flatten))) w'∧Ext h.length ρ ρ'∧h.length≤(h.set i (.own t' (qr cs (o*z) (zt lt (l.map (·.1))).flatten))).length∧wfV ρ' (h.set i (.own t' (qr cs (o*z) (zt lt (l.map (·.1))).flatten))).length (qL [])) fun e w' q=> ?_)
        ·simp only[zu2,zv9,hadr];rfl
        ·obtain⟨rfl,d',m,os,hp,hs,rfl⟩:=q;refine⟨ρ,rfl,?_,Ext.refl _ _,by simp,fun v hv=>by cases hv⟩;obtain⟨p1,_,p3⟩:=hp;have hds:d'.size=n:=by rw[p1];simpa using hrl
         have hdl:d'.toList.length=n:=by rw[zxj,hds]
         have e1:d'.toList=zt (fun x y:{l:List SV//okr l=true}=>lt x.1 y.1) l:=by
          refine zqB hO ?_ ?_ ?_
          ·rw[←zde (enc:=fun x:{l:List SV//okr l=true}=>x.1) (lt:=lt) (fun _ _=>rfl)];exact hdi
          ·rw[←p1,Array.extract_size,p1,Array.extract_size] at p3;simpa using p3
          ·rw[List.pairwise_iff_getElem];intro a b ha hb hab;have ha':a<d'.size:=by simpa using ha
           have hb':b<d'.size:=by simpa using hb
           have:=hs a b (zws _) hab (by rw[p1] at hb';exact hb');rw[hlt,getElem!_pos d' b hb',getElem!_pos d' a ha'] at this;simpa using this
         have e2:zt lt (l.map (·.1))=d'.toList.map (·.1):=by rw[e1,zeh (enc:=fun x:{l:List SV//okr l=true}=>x.1) (lt:=lt) (fun _ _=>rfl)]
         have e3:((zt lt (l.map (·.1))).flatten).map (c0 ρ)=d'.toList.flatMap fun x=>x.1.map (c0 ρ):=by rw[e2,List.flatMap_def,List.map_flatten,zwN];rfl
         have e4:(zt lt (l.map (·.1))).flatten.length=n*z:=by have:=congrArg List.length e3;rw[zu9,QD hzz,hdl] at this;exact this
         have hoz:(o+n)*z=o*z+n*z:=zvv ..;have S:=(R.drewN m).store (i:=i) (t:=t') (vs:=cs) (l:=(zt lt (l.map (·.1))).flatten) (o:=o*z) hi (by omega) (fun v hv=> ?_)
         ·rw[e3] at S;have W:sortWorldK (fun x:{l:List SV//okr l=true}=>x.1.map (c0 ρ)) z w (ρ i).blk ((ρ i).base+o*z) m d' os=grow ((w.drewN m).setCells (ρ i).blk ((ρ i).base+o*z) (d'.toList.flatMap fun x=>x.1.map (c0 ρ))) os:=by
           unfold sortWorldK;congr 1;have q1:=putRowK_self _ _ _ _ _ _ (holdsK_ahead _ _ w m _ _ _ hH);have q2:=setCells_putRow (Sort.ahead w m) (ρ i).blk ((ρ i).base+o*z) (d'.toList.flatMap fun x=>x.1.map (c0 ρ)) 0 (flatK (fun x:{l:List SV//okr l=true}=>x.1.map (c0 ρ)) z l.toArray) (by rw[size_flatK,QD hzz,hdl,zwe,hrl];omega);rw[zwa] at q2;unfold putRowK at q1⊢;rw[q1] at q2;refine Eq.trans ?_ q2.symm;congr 1;have sz1:(flatK (fun x:{l:List SV//okr l=true}=>x.1.map (c0 ρ)) z d').size=n*z:=by rw[size_flatK,hds]
           refine Array.ext (by rw[sz1,size_setMany,size_flatK,zwe,hrl]) fun j h1 h2=> ?_;have h3:j<(flatK (fun x:{l:List SV//okr l=true}=>x.1.map (c0 ρ)) z l.toArray).size:=by rwa [size_setMany] at h2
           have q3:=get_setMany (d'.toList.flatMap fun x=>x.1.map (c0 ρ)) 0 (flatK (fun x:{l:List SV//okr l=true}=>x.1.map (c0 ρ)) z l.toArray) j h3;rw[zuO (by rw[QD hzz,hdl];rw[sz1] at h1;omega),getElem!_pos _ j h2,Nat.sub_zero] at q3;rw[q3];have q4:=zdr hzz d';have h5:j<(d'.toList.flatMap fun x=>x.1.map (c0 ρ)).length:=by rw[QD hzz,hdl];rw[sz1] at h1;omega
           rw[getElem!_pos _ j h5];simp only[q4,List.getElem_toArray]
          rw[W];have:=zil os.toList S;simpa using this
         ·obtain⟨r,hr,hv⟩:=zxx.1 hv;rw[e2] at hr;obtain⟨x,_,rfl⟩:=zvV.1 hr;exact J8 (hnl _ x.2 v hv)
       ·cases hga
      ·cases hga
     ·cases hga
   ·cases hga
  ·cases hga
 ·cases hga
end Go.Proofs.YtdmcfjkgopmlgaaGreatDoor.Ev
namespace Go.Proofs.YtdmcfjkgopmlgaaGreatDoor.Ev.CD
open Go
@[simp] def s274_1:EC:=(.seq (.draw [fd 5 0 2,ld 6 5,fd 7 0 3,ld 8 7,cb 9 90 6 8,fd 10 1 2,ld 11 10,fd 12 1 3,ld 13 12,cb 14 90 11 13,gG 15 (.bsl 3 2 [(.int .i64 0)] [(0,1,(.t 9)),(1,1,(.t 14))]),ca 16 139 15,mv 4 16] [(6,4),(8,4)] [4]) (.ret [4]))
@[simp] def b274:EC:=(.seq (.ops [nw 2 261 3 0,nw 3 261 3 1,mi 4 0] [2,3]) s274_1)
@[simp] def e274:EF:=⟨17,b274,[.tmp 4]⟩
@[simp] def s324_1:EC:=(.seq (.draw [fd 5 1 2,ld 6 5,fd 7 1 3,ld 8 7,cb 9 90 6 8,fd 10 0 2,ld 11 10,fd 12 0 3,ld 13 12,cb 14 90 11 13,gG 15 (.bsl 3 2 [(.int .i64 0)] [(0,1,(.t 9)),(1,1,(.t 14))]),ca 16 139 15,mv 4 16] [(6,4),(8,4)] [4]) (.ret [4]))
@[simp] def b324:EC:=(.seq (.ops [nw 2 327 3 0,nw 3 327 3 1,mi 4 0] [2,3]) s324_1)
@[simp] def e324:EF:=⟨17,b324,[.tmp 4]⟩
@[simp] def s89_1:EC:=(.seq (.ops [fd 5 0 2,ld 6 5,fd 7 0 3,ld 8 7,cb 9 90 6 8,mv 4 9] [4]) (.ret [4]))
@[simp] def b89:EC:=(.seq (.ops [nw 2 43 2 0,nw 3 43 2 1,mi 4 0] [2,3]) s89_1)
@[simp] def e89:EF:=⟨10,b89,[.tmp 4]⟩
@[simp] def s348_1:EC:=(.seq (.draw [fd 5 0 2,ld 6 5,fd 7 0 3,ld 8 7,cb 9 90 6 8,fd 10 1 2,ld 11 10,fd 12 1 3,ld 13 12,cb 14 90 11 13,gG 15 (.bsl 3 2 [(.int .i64 0)] [(0,1,(.t 9)),(1,1,(.t 14))]),ca 16 139 15,mv 4 16] [(6,4),(8,4)] [4]) (.ret [4]))
@[simp] def b348:EC:=(.seq (.ops [nw 2 244 5 0,nw 3 244 5 1,mi 4 0] [2,3]) s348_1)
@[simp] def e348:EF:=⟨17,b348,[.tmp 4]⟩
@[simp] def s138_1:EC:=(.seq (.draw [fd 5 0 2,ld 6 5,fd 7 0 3,ld 8 7,cb 9 140 6 8,fd 10 1 2,ld 11 10,fd 12 1 3,ld 13 12,cb 14 140 11 13,gG 15 (.bsl 3 2 [(.int .i64 0)] [(0,1,(.t 9)),(1,1,(.t 14))]),ca 16 139 15,mv 4 16] [(6,4),(8,4)] [4]) (.ret [4]))
@[simp] def b138:EC:=(.seq (.ops [nw 2 171 3 0,nw 3 171 3 1,mi 4 0] [2,3]) s138_1)
@[simp] def e138:EF:=⟨17,b138,[.tmp 4]⟩
@[simp] def s90_7:EC:=(.seq (.ops [mi 4 0] [4]) (.ret [4]))
@[simp] def s90_6:EC:=(.seq (.seq (.ops [mv 17 0,mv 18 1,bb 19 .gtr 17 18] [19]) (.cond (.t 19) (.seq (.ops [mi 4 1] [4]) (.ret [4])) .skip)) s90_7)
@[simp] def s90_5:EC:=(.seq (.seq (.ops [mv 14 0,mv 15 1,bb 16 .lss 14 15] [0,1,16]) (.cond (.t 16) (.seq (.ops [mi 4 (-1)] [4]) (.ret [4])) .skip)) s90_6)
@[simp] def s90_4:EC:=(.seq (.seq (.ops [mv 13 6] [0,1,13]) (.cond (.t 13) (.seq (.ops [mi 4 1] [4]) (.ret [4])) .skip)) s90_5)
@[simp] def s90_3:EC:=(.seq (.seq (.ops [mv 11 5] [0,1,6,11]) (.cond (.t 11) (.seq (.seq (.ops [mv 12 6] [12]) (.cond (.t 12) (.seq (.ops [mi 4 0] [4]) (.ret [4])) .skip)) (.seq (.ops [mi 4 (-1)] [4]) (.ret [4]))) .skip)) s90_4)
@[simp] def s90_2:EC:=(.seq (.ops [mv 9 1,ca 10 164 9,mv 6 10] [0,1,5,6]) s90_3)
@[simp] def s90_1:EC:=(.seq (.ops [mv 7 0,ca 8 164 7,mv 5 8] [0,1,5]) s90_2)
@[simp] def b90:EC:=(.seq (.ops [mi 4 0] [0,1]) s90_1)
@[simp] def e90:EF:=⟨20,b90,[.tmp 4]⟩
@[simp] def l139_0_2:EC:=(.seq (.block 1 (.seq (.ops [ia 10 3 1 6 8,ld 11 10,mv 5 11] [3,5,6,7,8]) (.seq (.ops [mv 12 5,mv 13 3,bb 14 .neq 12 13] [3,5,6,7,8,14]) (.cond (.t 14) (.seq (.ops [mv 15 5,mv 2 15] [2]) (.ret [2])) .skip)))) (.ops [bi 16 .add 8 1,mv 8 16] [3,6,7,8]))
@[simp] def l139_0_1:EC:=(.seq (.cond (.t 9) .skip (.exit 0 [3])) l139_0_2)
def l139_0:EC:=(.seq (.ops [bb 9 .lss 8 7] [3,6,7,8,9]) l139_0_1)
@[simp] def s139_3:EC:=(.seq (.ops [mv 17 3,mv 2 17] [2]) (.ret [2]))
@[simp] def s139_2:EC:=(.seq (.seq (.ops [mv 6 0,lE 7 6,mi 8 0] [3,6,7,8]) (.block 0 (.loop [3,6,7,8] l139_0))) s139_3)
@[simp] def s139_1:EC:=(.seq (.ops [mi 3 0] [0,3]) s139_2)
@[simp] def b139:EC:=(.seq (.ops [mi 2 0] [0]) s139_1)
@[simp] def e139:EF:=⟨18,b139,[.tmp 2]⟩
@[simp] def s164_1:EC:=(.seq (.ops [mv 3 0,mv 4 0,bb 5 .neq 3 4,mv 2 5] [2]) (.ret [2]))
@[simp] def b164:EC:=(.seq (.ops [mb 2 false] [0]) s164_1)
@[simp] def e164:EF:=⟨6,b164,[.tmp 2]⟩
def zkq:List FV→LH→Option (List FV×LH)
 |[.s (.str a),.s (.str b)],h=>some ([.s (.int .i64 (Lib.compareBytes a.data.toList b.data.toList))],h)
 |_,_=>none
def e140:EF:=⟨2,.ext 2 1 zkq,(List.range 1).map fun i=> .tmp (2+i)⟩
def C:Nat→Option EF
 |274=>some e274
 |324=>some e324
 |89=>some e89
 |348=>some e348
 |138=>some e138
 |90=>some e90
 |139=>some e139
 |164=>some e164
 |140=>some e140
 |_=>none
end Go.Proofs.YtdmcfjkgopmlgaaGreatDoor.Ev.CD
namespace Go.Proofs.YtdmcfjkgopmlgaaGreatDoor.Ev.CD
open Go
section
attribute [-simp] getElem?_pos
def zaB(a b:Int):Int:=if a<b then -1 else if b<a then 1 else 0
theorem zjw(a:Int)(h:LH):zy C 164 [.s (.int .i64 a)] h=some (.s (.bool false),h):=by apply JN;refine WPc.intro (e:=e164) rfl (zuF rfl) ?_;simp
theorem zfO(a b:Int)(h:LH):zy C 90 [.s (.int .i64 a),.s (.int .i64 b)] h=some (.s (.int .i64 (zaB a b)),h):=by
 apply JN;refine WPc.intro (e:=e90) rfl (zuF rfl) ?_;unfold zaB;by_cases h1:a<b
 ·simp[zjw,h1]
 ·by_cases h2:b<a
  ·simp[zjw,h1,h2]
  ·simp[zjw,h1,h2]
theorem zua(a b:ByteArray)(h:LH):zy C 140 [.s (.str a),.s (.str b)] h=some (.s (.int .i64 (Lib.compareBytes a.data.toList b.data.toList)),h):=
 ZC (C:=C) (f:=140) (k:=2) (g:=zkq) rfl (args:=[.s (.str a),.s (.str b)]) rfl rfl (zuL _) rfl
theorem roll{C:Nat→Option EF}{b:EC}{keep:List Nat}{fr:Fr}{h:LH}{Φ:Ex→Fr→LH→Prop}(hk:zl keep fr=fr)(w:∀I:Fr→LH→Prop,(∀fr h,WPl C b keep fr h Φ→I fr h)→WPk C b fr h (KL I keep Φ)):WPl C b keep fr h Φ:=by
 obtain⟨x,fr',h',e,r⟩:=w _ fun _ _ x=>x;cases x with
 |normal=>
  obtain⟨x2,fr2,h2,e2,r2⟩:=r;exact⟨x2,fr2,h2,zdK hk e e2,r2⟩
 |exit id=>exact⟨_,_,_,q8 hk e (by simp),r⟩
 |goto l=>exact⟨_,_,_,q8 hk e (by simp),r⟩
 |ret=>exact⟨_,_,_,q8 hk e (by simp),r⟩
theorem or_ok(p q:Int)(h:LH)(i:Nat)(hi:h[i]? =some (.own 3 [.int .i64 p,.int .i64 q])):zy C 139 [.s (.sl i 0 0 2)] h=some (.s (.int .i64 (if p=0 then q else p)),h):=by
 have hl:i<h.length:=(zuJ.1 hi).1;have w0:IntKind.i64.wrap (0+1)=1:=by decide
 have w1:IntKind.i64.wrap 1=1:=by decide
 have w2:IntKind.i64.wrap (1+1)=2:=by decide
 have w3:IntKind.i64.wrap 2=2:=by decide
 apply JN;refine WPc.intro (e:=e139) rfl (zuF rfl) ?_;simp[hi,hl];refine roll rfl fun I hI=> ?_;by_cases hp:p=0
 ·subst hp;simp[l139_0,hi,hl,w0,w1,w2,w3];refine hI _ _ (roll rfl fun I hI=> ?_);by_cases hq:q=0
  ·subst hq;simp[l139_0,hi,hl,w0,w1,w2,w3];refine hI _ _ (roll rfl fun I hI=> ?_);simp[l139_0,hi,hl,w0,w1,w2,w3]
  ·simp[l139_0,hi,hl,w0,w1,w2,w3,hq]
 ·simp[l139_0,hi,hl,w0,w1,w2,w3,hp]
def orI(p q:Int):Int:=if p=0 then q else p
theorem or2(p q:Int)(a b:LO):zy C 139 [.s (.sl 2 0 0 2)] [a,b,.own 3 [.int .i64 p,.int .i64 q]]=some (.s (.int .i64 (orI p q)),[a,b,.own 3 [.int .i64 p,.int .i64 q]]):=or_ok p q _ 2 rfl
theorem zt4(a b c x y z:Int):WPc C 274 [.agg [.int .i64 a,.int .i64 b,.int .i64 c],.agg [.int .i64 x,.int .i64 y,.int .i64 z]] [] fun u h'=>u= .s (.int .i64 (orI (zaB a x) (zaB b y))):=by refine WPc.intro (e:=e274) rfl (zuF rfl) ?_;simp;refine J3 ?_;simp[zfO,or2]
theorem zuh(a b c x y z:Int):WPc C 324 [.agg [.int .i64 a,.int .i64 b,.int .i64 c],.agg [.int .i64 x,.int .i64 y,.int .i64 z]] [] fun u h'=>u= .s (.int .i64 (orI (zaB b y) (zaB a x))):=by refine WPc.intro (e:=e324) rfl (zuF rfl) ?_;simp;refine J3 ?_;simp[zfO,or2]
theorem ztj(a b x y:Int):WPc C 89 [.agg [.int .i64 a,.int .i64 b],.agg [.int .i64 x,.int .i64 y]] [] fun u h'=>u= .s (.int .i64 (zaB a x)):=by refine WPc.intro (e:=e89) rfl (zuF rfl) ?_;simp[zfO]
theorem zt0(a b c d e x y z v w:Int):WPc C 348 [.agg [.int .i64 a,.int .i64 b,.int .i64 c,.int .i64 d,.int .i64 e],.agg [.int .i64 x,.int .i64 y,.int .i64 z,.int .i64 v,.int .i64 w]] [] fun u h'=>u= .s (.int .i64 (orI (zaB a x) (zaB b y))):=by refine WPc.intro (e:=e348) rfl (zuF rfl) ?_;simp;refine J3 ?_;simp[zfO,or2]
def zlt(a b:ByteArray):Int:=Lib.compareBytes a.data.toList b.data.toList
theorem zsU(a b:ByteArray)(c:Int)(x y:ByteArray)(z:Int):WPc C 138 [.agg [.str a,.str b,.int .i64 c],.agg [.str x,.str y,.int .i64 z]] [] fun u h'=>u= .s (.int .i64 (orI (zlt a x) (zlt b y))):=by refine WPc.intro (e:=e138) rfl (zuF rfl) ?_;simp;refine J3 ?_;simp[zua,or2,zlt]
end
end Go.Proofs.YtdmcfjkgopmlgaaGreatDoor.Ev.CD
namespace Go.Proofs.YtdmcfjkgopmlgaaGreatDoor.Ev.CD
open Go Go.Sort
section
attribute [-simp] getElem?_pos
theorem zaz:∀{ty:List Bool} {l:List SV},okT ty l=true→∀{k:Nat},k<ty.length→(ty[k]? =some true∧∃n,l[k]? =some (.int .i64 n))∨(ty[k]? =some false∧∃s,l[k]? =some (.str s))
 |[],_,_,k,hk=>by simp at hk
 |true::ty,.int .i64 n::l,h,0,_=> .inl ⟨rfl,n,rfl⟩
 |true::ty,.int .i64 n::l,h,k+1,hk=>by
  have:=zaz (ty:=ty) (l:=l) h (k:=k) (by simpa using hk);simpa using this
 |false::ty,.str s::l,h,0,_=> .inr ⟨rfl,s,rfl⟩
 |false::ty,.str s::l,h,k+1,hk=>by have:=zaz (ty:=ty) (l:=l) h (k:=k) (by simpa using hk);simpa using this
theorem zmu(ty:List Bool):∀ks:List Nat,(ks.all fun k=>decide (k<ty.length))=true→SWO fun x y:{l:List SV//okT ty l=true}=>ltK ks x.1 y.1
 |[],_=>⟨fun _=>rfl,fun _ _ _ h=>by simp[ltK] at h,fun _ _ _ _ _=>rfl⟩
 |k::ks,h=>by
  simp only[zwp,zuP,zuW] at h;have ih:=zmu ty ks h.2;have two:∀x y:{l:List SV//okT ty l=true},(∃a b,ltK (k::ks) x.1 y.1=(decide (a<b)||(a==b&&ltK ks x.1 y.1))∧x.1[k]? =some (.int .i64 a)∧y.1[k]? =some (.int .i64 b))∨(∃a b,ltK (k::ks) x.1 y.1=(Op.bytesLess a.toList b.toList||(a.toList==b.toList&&ltK ks x.1 y.1))∧x.1[k]? =some (.str a)∧y.1[k]? =some (.str b)):=fun x y=>by
   rcases zaz x.2 h.1 with⟨e1,a,p1⟩|⟨e1,a,p1⟩
   ·rcases zaz y.2 h.1 with⟨e2,b,p2⟩|⟨e2,b,p2⟩
    ·exact .inl ⟨a,b,by simp[ltK,p1,p2],p1,p2⟩
    ·rw[e1] at e2;cases e2
   ·rcases zaz y.2 h.1 with⟨e2,b,p2⟩|⟨e2,b,p2⟩
    ·rw[e1] at e2;cases e2
    ·exact .inr ⟨a,b,by simp[ltK,p1,p2],p1,p2⟩
  refine⟨fun x=> ?_,fun x y z h1 h2=> ?_,fun x y z h1 h2=> ?_⟩
  ·have i0:ltK ks x.1 x.1=false:=ih.irrefl x;rcases two x x with⟨a,b,e,p,q⟩|⟨a,b,e,p,q⟩
   ·rw[p] at q;cases q;rw[e,i0];simp
   ·rw[p] at q;cases q;rw[e,i0,bytesLess_eq];simp[List.lt_irrefl]
  ·have i0:ltK ks x.1 y.1=true→ltK ks y.1 z.1=true→ltK ks x.1 z.1=true:=ih.trans x y z;rcases two x y with⟨a,b,e,p,q⟩|⟨a,b,e,p,q⟩
   ·rcases two y z with⟨b',c,e2,p2,q2⟩|⟨b',c,e2,p2,q2⟩
    ·rw[q] at p2;cases p2;rcases two x z with⟨a',c',e3,p3,q3⟩|⟨a',c',e3,p3,q3⟩
     ·rw[p] at p3;cases p3;rw[q2] at q3;cases q3;rw[e] at h1;rw[e2] at h2;rw[e3];simp only[zvJ,zuP,zuW,zwf] at *;rcases h1 with h1|⟨h1,k1⟩
      ·rcases h2 with h2|⟨h2,k2⟩
       ·exact .inl (by omega)
       ·exact .inl (by omega)
      ·rcases h2 with h2|⟨h2,k2⟩
       ·exact .inl (by omega)
       ·exact .inr ⟨by omega,i0 k1 k2⟩
     ·rw[p] at p3;cases p3
    ·rw[q] at p2;cases p2
   ·rcases two y z with⟨b',c,e2,p2,q2⟩|⟨b',c,e2,p2,q2⟩
    ·rw[q] at p2;cases p2
    ·rw[q] at p2;cases p2;rcases two x z with⟨a',c',e3,p3,q3⟩|⟨a',c',e3,p3,q3⟩
     ·rw[p] at p3;cases p3
     ·rw[p] at p3;cases p3;rw[q2] at q3;cases q3;rw[e] at h1;rw[e2] at h2;rw[e3];simp only[bytesLess_eq,zvJ,zuP,zuW,zwf] at *;rcases h1 with h1|⟨h1,k1⟩
      ·rcases h2 with h2|⟨h2,k2⟩
       ·exact .inl (List.lt_trans h1 h2)
       ·exact .inl (h2▸h1)
      ·rcases h2 with h2|⟨h2,k2⟩
       ·exact .inl (h1▸h2)
       ·exact .inr ⟨h1.trans h2,i0 k1 k2⟩
  ·have i0:ltK ks x.1 y.1=false→ltK ks y.1 z.1=false→ltK ks x.1 z.1=false:=ih.ntrans x y z;rcases two x y with⟨a,b,e,p,q⟩|⟨a,b,e,p,q⟩
   ·rcases two y z with⟨b',c,e2,p2,q2⟩|⟨b',c,e2,p2,q2⟩
    ·rw[q] at p2;cases p2;rcases two x z with⟨a',c',e3,p3,q3⟩|⟨a',c',e3,p3,q3⟩
     ·rw[p] at p3;cases p3;rw[q2] at q3;cases q3;rw[e] at h1;rw[e2] at h2;rw[e3];simp only[Bool.or_eq_false_iff,zw3,zvY,beq_eq_false_iff_ne] at *;refine⟨by omega,?_⟩;by_cases hac:a=c
      ·exact .inr (i0 (h1.2.resolve_left fun hn=>hn (by omega)) (h2.2.resolve_left fun hn=>hn (by omega)))
      ·exact .inl hac
     ·rw[p] at p3;cases p3
    ·rw[q] at p2;cases p2
   ·rcases two y z with⟨b',c,e2,p2,q2⟩|⟨b',c,e2,p2,q2⟩
    ·rw[q] at p2;cases p2
    ·rw[q] at p2;cases p2;rcases two x z with⟨a',c',e3,p3,q3⟩|⟨a',c',e3,p3,q3⟩
     ·rw[p] at p3;cases p3
     ·rw[p] at p3;cases p3;rw[q2] at q3;cases q3;rw[e] at h1;rw[e2] at h2;rw[e3];simp only[bytesLess_eq,Bool.or_eq_false_iff,zw3,zvY,beq_eq_false_iff_ne,List.not_lt] at *;refine⟨List.le_trans h2.1 h1.1,?_⟩;by_cases hac:a.toList=c.toList
      ·have h12:a.toList=b.toList:=List.le_antisymm (hac▸h2.1) h1.1;exact .inr (i0 (h1.2.resolve_left fun hn=>hn h12) (h2.2.resolve_left fun hn=>hn (h12.symm.trans hac)))
      ·exact .inl hac
theorem Jc:∀{ty:List Bool} (l:List SV),okT ty l=true→l.length=ty.length
 |[],[],_=>rfl
 |true::ty,.int .i64 n::l,h=>by simp[Jc (ty:=ty) l h]
 |false::ty,.str s::l,h=>by simp[Jc (ty:=ty) l h]
theorem zan:∀{ty:List Bool} (l:List SV),okT ty l=true→∀v∈l,nlS v=true
 |[],[],_,v,hv=>by cases hv
 |true::ty,.int .i64 n::l,h,v,hv=>by
  rcases zuX.1 hv with rfl|hv
  ·rfl
  ·exact zan (ty:=ty) l h v hv
 |false::ty,.str s::l,h,v,hv=>by
  rcases zuX.1 hv with rfl|hv
  ·rfl
  ·exact zan (ty:=ty) l h v hv
theorem row3{l:List SV}(h:okT [true,true,true] l=true):∃a b c,l=[.int .i64 a,.int .i64 b,.int .i64 c]:=by
 match l,h with
 |[.int .i64 a,.int .i64 b,.int .i64 c],_=>exact⟨a,b,c,rfl⟩
theorem row2{l:List SV}(h:okT [true,true] l=true):∃a b,l=[.int .i64 a,.int .i64 b]:=by
 match l,h with
 |[.int .i64 a,.int .i64 b],_=>exact⟨a,b,rfl⟩
theorem row5{l:List SV}(h:okT [true,true,true,true,true] l=true):∃a b c d e,l=[.int .i64 a,.int .i64 b,.int .i64 c,.int .i64 d,.int .i64 e]:=by
 match l,h with
 |[.int .i64 a,.int .i64 b,.int .i64 c,.int .i64 d,.int .i64 e],_=>exact⟨a,b,c,d,e,rfl⟩
theorem rowS{l:List SV}(h:okT [false,false,true] l=true):∃a b c,l=[.str a,.str b,.int .i64 c]:=by
 match l,h with
 |[.str a,.str b,.int .i64 c],_=>exact⟨a,b,c,rfl⟩
theorem zfM(a x b y:Int):orI (zaB a x) (zaB b y)<0↔(a<x∨(a=x∧b<y)):=by
 unfold orI zaB
 repeat' split
 all_goals omega
theorem zfN:∀(a b:List UInt8),(Lib.compareBytes a b<0↔a<b)∧(Lib.compareBytes a b=0↔a=b)
 |[],[]=>by simp[Lib.compareBytes]
 |[],_::_=>by simp[Lib.compareBytes]
 |_::_,[]=>by simp[Lib.compareBytes]
 |a::x,b::y=>by
  have ih:=zfN x y;unfold Lib.compareBytes;rw[List.cons_lt_cons_iff,List.cons_eq_cons];by_cases h1:a<b
  ·have h2:a≠b:=fun e=>UInt8.lt_irrefl _ (e▸h1);simp[h1,h2]
  ·by_cases h2:b<a
   ·have h3:a≠b:=fun e=>UInt8.lt_irrefl _ (e▸h2);simp[h1,h2,h3]
   ·have h3:a=b:=UInt8.le_antisymm (UInt8.not_lt.1 h2) (UInt8.not_lt.1 h1);simp[h1,h2,h3,ih]
theorem zp9(a x b y:ByteArray):orI (zlt a x) (zlt b y)<0↔(a.data.toList<x.data.toList∨(a.data.toList=x.data.toList∧b.data.toList<y.data.toList)):=by
 have h1:=zfN a.data.toList x.data.toList;have h2:=zfN b.data.toList y.data.toList;unfold orI zlt;split
 ·rename_i h;rw[h2.1];have:=h1.2.1 h;simp[this,List.lt_irrefl]
 ·rename_i h;have:a.data.toList≠x.data.toList:=fun e=>h (h1.2.2 e);simp[h1.1,this]
theorem cB(x y:List SV)(hx:okT [true,true,true] x=true)(hy:okT [true,true,true] y=true):WPc C 274 [.agg x,.agg y] [] fun u h'=>∃c,u= .s (.int .i64 c)∧(c<0↔ltK [0,1] x y=true):=by
 obtain⟨a,b,c,rfl⟩:=row3 hx;obtain⟨p,q,r,rfl⟩:=row3 hy;refine(zt4 a b c p q r).mono fun u h' e=>⟨_,e,?_⟩
 rw[zfM];simp[ltK]
theorem cV(x y:List SV)(hx:okT [true,true,true] x=true)(hy:okT [true,true,true] y=true):WPc C 324 [.agg x,.agg y] [] fun u h'=>∃c,u= .s (.int .i64 c)∧(c<0↔ltK [1,0] x y=true):=by
 obtain⟨a,b,c,rfl⟩:=row3 hx;obtain⟨p,q,r,rfl⟩:=row3 hy;refine(zuh a b c p q r).mono fun u h' e=>⟨_,e,?_⟩
 rw[zfM];simp[ltK]
theorem cT(x y:List SV)(hx:okT [true,true] x=true)(hy:okT [true,true] y=true):WPc C 89 [.agg x,.agg y] [] fun u h'=>∃c,u= .s (.int .i64 c)∧(c<0↔ltK [0] x y=true):=by
 obtain⟨a,b,rfl⟩:=row2 hx;obtain⟨p,q,rfl⟩:=row2 hy;refine(ztj a b p q).mono fun u h' e=>⟨_,e,?_⟩
 have:zaB a p<0↔a<p:=by unfold zaB;repeat' split
                        all_goals omega
 rw[this];simp[ltK]
theorem cW(x y:List SV)(hx:okT [true,true,true,true,true] x=true)(hy:okT [true,true,true,true,true] y=true):WPc C 348 [.agg x,.agg y] [] fun u h'=>∃c,u= .s (.int .i64 c)∧(c<0↔ltK [0,1] x y=true):=by
 obtain⟨a,b,c,d,e,rfl⟩:=row5 hx;obtain⟨p,q,r,s,t,rfl⟩:=row5 hy;refine(zt0 a b c d e p q r s t).mono fun u h' e=>⟨_,e,?_⟩
 rw[zfM];simp[ltK]
theorem cP(x y:List SV)(hx:okT [false,false,true] x=true)(hy:okT [false,false,true] y=true):WPc C 138 [.agg x,.agg y] [] fun u h'=>∃c,u= .s (.int .i64 c)∧(c<0↔ltK [0,1] x y=true):=by
 obtain⟨a,b,c,rfl⟩:=rowS hx;obtain⟨p,q,r,rfl⟩:=rowS hy;refine(zsU a b c p q r).mono fun u h' e=>⟨_,e,?_⟩
 rw[zp9];simp[ltK,bytesLess_eq,zwc]
end
end Go.Proofs.YtdmcfjkgopmlgaaGreatDoor.Ev.CD
